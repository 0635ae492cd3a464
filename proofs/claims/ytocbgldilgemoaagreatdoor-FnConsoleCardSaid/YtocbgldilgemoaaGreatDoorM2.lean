/- Texts of this claim, one behind the other: Brw, Grd, Per, Lrn, Fac, Clo, Brl. No condition but what each says. -/
import Derived.Test.YtocbgldilgemoaaGreatDoorM1
import Derived.Lib.AtoiErrMem
namespace Go.Proofs.YtocbgldilgemoaaGreatDoor
open Go.RowKit
set_option linter.unusedVariables false
set_option maxRecDepth 4000
set_option maxHeartbeats 1000000
def BR (w:World) (B:Nat) (E:TypeId) (g c:Nat) (l:List UInt8):Prop :=
 B≤g∧l.length≤c∧c≤maxLen∧∃ (cur:Array Value) (fr:Nat × Nat),w.heap[g]? = some (.cells cur E fr)∧cur.size=c∧cur.toList.take l.length=byV l∧∀ j,j<c→¬ (fr.1≤j∧j<fr.2)
section
variable {P:Program} {w w':World} {B B' g c:Nat} {E:TypeId} {l:List UInt8}
theorem BR.lt (h:BR w B E g c l):g<w.heap.size:=by
 obtain⟨_,_,_,cur,fr,hg,_⟩:=h
 exact (Array.getElem?_eq_some_iff.1 hg).1
theorem BR.below (h:BR w B E g c l) (hb:Below w.heap.size w w'):BR w' B E g c l:=by
 have hl:=h.lt
 obtain⟨h1,h2,h3,cur,fr,hg,h4⟩:=h
 exact⟨h1,h2,h3,cur,fr,(hb.block g hl).trans hg,h4⟩
theorem BR.dr (h:BR w B E g c l) (hd:Dr w w'):BR w' B E g c l:=h.below hd.below
theorem BR.lower (h:BR w B E g c l) (hB:B'≤B):BR w B' E g c l:=⟨Nat.le_trans hB h.1,h.2⟩
theorem BR.cell (h:BR w B E g c l) {j:Nat} {b:UInt8} (hj:l[j]? = some b):w.cell? ⟨g,j,none⟩=some (.int .u8 (b.toNat:Int)):=by
 obtain⟨_,_,_,cur,fr,hg,hs,ht,_⟩:=h
 have hlt:=(List.getElem?_eq_some_iff.1 hj).1
 have h1:(byV l)[j]? = some (.int .u8 (b.toNat:Int)):=by rw[byV,List.getElem?_map,hj];rfl
 rw[← ht,List.getElem?_take_of_lt hlt] at h1
 simp only[World.cell?,hg]
 simpa using h1
theorem BR.reads (h:BR w B E g c l):Rds w (g+1) (some ⟨g,0,none⟩) (byV l):=fun k u hu=>by
 refine⟨_,rfl,Nat.lt_succ_self _,?_⟩
 have hk:k<l.length:=by have:=(List.getElem?_eq_some_iff.1 hu).1;rwa[Zm] at this
 obtain⟨b,hb⟩:=Zc (l:=l) (k:=k) hk
 rw[byV,List.getElem?_map,hb] at hu
 have hu2:u=.int .u8 (b.toNat:Int):=by simpa using hu.symm
 rw[hu2]
 have hc:=h.cell hb
 rcases Nat.eq_zero_or_pos k with h0|h0
 ·subst h0;simpa[Addr.add] using hc
 ·simpa[Addr.add,show k≠0 by omega] using hc
theorem BR.take (h:BR w B E g c l) (n:Nat):BR w B E g c (l.take n):=by
 obtain⟨h1,h2,h3,cur,fr,hg,hs,ht,hf⟩:=h
 refine⟨h1,by rw[List.length_take];omega,h3,cur,fr,hg,hs,?_,hf⟩
 rw[List.length_take,byV,List.map_take,← byV,← ht,List.take_take,Nat.min_comm]
theorem BR.conv (w:World) (E:TypeId) (s:ByteArray) (hs:s.size≤maxLen):BR (Lib.bytesWorld w E s) w.heap.size E w.heap.size (grownCap w s.size 0 E) (L s):=by
 have hge:=grownCap_ge w s.size 0 E
 have hle:=grownCap_le_maxLen w s.size 0 E hs
 have hsz:(Lib.bytesCells w E s).size=grownCap w s.size 0 E:=by
  rw[Lib.bytesCells,Array.size_append,Array.size_map,Array.size_replicate]
  have:s.data.size=s.size:=rfl
  omega
 refine⟨Nat.le_refl _,by rw[Zj];exact hge,hle,_,_,Lib.bytesWorld_at_new w E s,hsz,?_,fun j hj=>by rw[hsz];omega⟩
 rw[Lib.bytesCells,Array.toList_append,Array.toList_map,Zj,List.take_left' (by rw[List.length_map];rfl)]
 rfl
theorem BR.ofOwn {v:Value} {n:Nat} (h:Own w B E (.slice (some ⟨g,0,none⟩) n c) (byV l)) (hn:l.length=n):BR w B E g c l:=by
 obtain⟨h1,h2|⟨g',cap,cur,hv,hb,hg,hn2,hm,hs,ht⟩⟩:=h
 ·cases h2.1
 ·injection hv with e1 e2 e3
  injection e1 with e1
  injection e1 with e1
  subst e1 e3
  rw[Zm] at hn2 ht
  exact⟨hb,hn2,hm,cur,(0,0),hg,by omega,by rw[Nat.mul_one] at ht;exact ht,fun j _=>by omega⟩
theorem XW (P:Program) (g o:Nat) (t:TypeId) (fr:Nat × Nat):∀ (vs:List Value) (i:Nat) (cur:Array Value) (w:World),w.heap[g]? = some (.cells cur t fr)→(∀ j,j<cur.size→¬ (fr.1≤j∧j<fr.2))→o+i+vs.length≤cur.size→(∀ v∈vs,v.oneCell'=true) →
  ∃ w',(storeCells ⟨g,o,none⟩ vs i).run P w=.ok () w'∧w.grownBy w' (some g)∧w'.heap[g]? = some (.cells (cur.toList.take (o+i)++vs++cur.toList.drop (o+i+vs.length)).toArray t fr)
 | [],i,cur,w,hg,_,_,_=>⟨w,rfl,World.grownBy.refl _ _,by
   simp only[List.append_nil,List.length_nil,Nat.add_zero,List.take_append_drop,Array.toArray_toList];exact hg⟩
 | v :: rest,i,cur,w,hg,hf,hl,h1=>by
  rw[List.length_cons] at hl
  have hi:o+i<cur.size:=by omega
  have hadd:(⟨g,o,none⟩:Addr).add i=⟨g,o+i,none⟩:=by unfold Addr.add;split<;>simp_all
  have hcell:w.cell? ⟨g,o+i,none⟩=some cur[o+i]:=by simp[World.cell?,hg,hi]
  have hfro:w.frozen? ⟨g,o+i,none⟩=false:=by
   have:=hf (o+i) hi
   simp[World.frozen?,hg]
   omega
  have hst:(store ((⟨g,o,none⟩:Addr).add i) v).run P w=.ok () (w.setRow g (cur.setIfInBounds (o+i) v)):=by
   rw[hadd,run_store P w _ v _ (h1 v (by simp)),hcell]
   simp[hfro,setCell_eq_setRow w g (o+i) cur t fr v hg]
  obtain⟨w2,hr,hgr,hg2⟩:=XW P g o t fr rest (i+1) (cur.setIfInBounds (o+i) v) (w.setRow g (cur.setIfInBounds (o+i) v)) (setRow_heap w g cur _ t fr hg) (by simpa using hf) (by simp;omega) (fun x hx=>h1 x (List.mem_cons_of_mem _ hx))
  have hgr1:w.grownBy (w.setRow g (cur.setIfInBounds (o+i) v)) (some g):=⟨rfl,rfl,rfl,by simp,fun k _ hk=>setRow_other w g k _ (fun e=>hk (by simp[e]))⟩
  refine⟨w2,?_,QF hgr1 hgr,?_⟩
  ·simp only[storeCells,Sem.run_bind,hst,Result.andThen_ok,hr]
  ·rw[hg2]
   congr 3
   have e:=list_seg_step cur.toList (o+i) v rest (by simp;omega)
   simpa[Array.toList_setIfInBounds,Nat.add_assoc] using e
theorem Y9 {w w':World} (h:Below w.heap.size w w') (row:Option Nat):w.grownBy w' row:=⟨h.os,h.tape,h.output,h.size,fun k hk _=>h.block k hk⟩
theorem Zej (s:ByteArray):List.take s.size (List.map (fun b:UInt8=>Value.int IntKind.u8 (b.toNat:Int)) s.data.toList)=byV (L s):=by
 have e:s.size=(List.map (fun b:UInt8=>Value.int IntKind.u8 (b.toNat:Int)) s.data.toList).length:=by simp
 rw[e,List.take_length]
 rfl
theorem Zek (s:ByteArray):(Array.map (fun b:UInt8=>Value.int IntKind.u8 (b.toNat:Int)) s.data).extract 0 s.size=(byV (L s)).toArray:=by
 have e:s.size=(Array.map (fun b:UInt8=>Value.int IntKind.u8 (b.toNat:Int)) s.data).size:=by simp
 rw[e,Array.extract_size]
 apply Array.ext'
 simp[byV,L]
theorem Zft (l:List UInt8):∀ v∈byV l,v.oneCell'=true:=by
 intro v hv
 rw[byV,List.mem_map] at hv
 obtain⟨b,_,rfl⟩:=hv
 rfl
theorem ZcK {cur:Array Value} {l k:List UInt8} (ht:cur.toList.take l.length=byV l):(cur.toList.take l.length++byV k++cur.toList.drop (l.length+k.length)).toArray.toList.take (l++k).length=byV (l++k):=by
 rw[ht,← VQ,List.length_append]
 exact List.take_left' (by rw[Zm,List.length_append])
theorem XX (t u ty:TypeId) (i:TypeInfo) (ht:P.underlying t=some (.slice E)) (hu:P.underlying u=some .string) (hi:P.info? E=some i) (hz:i.zero=some (.int .u8 0)) (hsize:i.size=1) (hby:i.bytes=1)
  (h:BR w B E g c l) (s:ByteArray) (n:Nat) (hn:l.length=n) (hlim:n+s.size≤4294967296) (hB:B≤w.heap.size) :
  ∃ g' c' w',(Builtin.append_ #[t,u] ty #[.slice (some ⟨g,0,none⟩) n c,.string s]).run P w=.ok (.slice (some ⟨g',0,none⟩) (n+s.size) c') w'∧BR w' B E g' c' (l++L s)∧w.grownBy w' (some g)∧(g'=g∨g'=w.heap.size):=by
 subst hn
 have hrd:=h.reads
 obtain⟨h1,h2,h3,cur,fr,hg,hs,htk,hf⟩:=h
 have hLs:=Zj s
 by_cases hroom:l.length+s.size≤c
 ·obtain⟨w1,hst,hgr,hg1⟩:=XW P g l.length E fr (byV (L s)) 0 cur w hg (by rw[hs];exact hf) (by rw[Zm,hLs];omega) (Zft _)
  simp only[Nat.add_zero,Zm] at hg1
  refine⟨g,c,w1,?_,⟨h1,by rw[List.length_append,hLs];exact hroom,h3,_,fr,hg1,?_,ZcK htk,hf⟩,hgr,.inl rfl⟩
  ·have hst2:(storeCells ({ block:=g,off:=l.length }:Addr) (byV (L s))).run P w=.ok () w1:=hst
   simp[Builtin.append_,run_underlying ht,run_underlying hu,sizeOf,typeInfo,hi,hsize,Builtin.lenOf,hroom,Builtin.firstCells,Addr.add_lit]
   rw[Zej,hst2]
   rfl
  ·simp[hs,Zm,hLs]
   rw[← hs] at hroom ⊢
   have:=Array.length_toList (xs:=cur)
   omega
 ·have h63:¬ (9223372036854775807<((l.length:Int)+(s.size:Int))):=by omega
  have hb2:Builtin.nextslicecap (l.length+s.size) c * 1≤281474976710656:=growslice_fits (by omega) (by omega)
  have h48:¬ (281474976710656<Builtin.nextslicecap (l.length+s.size) c):=by omega
  have hfo:=run_firstCells_some (P:=P) w.drew 1 l.length ⟨g,0,none⟩ l.length c (byV l) (by rw[Zm,Nat.mul_one]) (fun j v hj=>by
   obtain⟨ad,e1,_,e2⟩:=hrd j v hj
   injection e1 with e1
   subst e1
   exact e2)
  have hge:=grownCap_ge w (l.length+s.size) c E
  have hle:=grownCap_le_maxLen w (l.length+s.size) c E (by unfold maxLen;omega)
  have hfo2:(loadCells ({ block:=g,off:=0 }:Addr) l.length).run P w.drew=.ok (byV l).toArray w.drew:=by simpa[Builtin.firstCells] using hfo
  refine⟨w.heap.size,grownCap w (l.length+s.size) c E,w.drew.alloc (.cells ((byV l).toArray++(byV (L s)).toArray++Builtin.zeroCells #[.int .u8 0] (grownCap w (l.length+s.size) c E - (l.length+s.size))) E),?_,?_,?_,.inr rfl⟩
  ·simp[Builtin.append_,run_underlying ht,run_underlying hu,sizeOf,typeInfo,zeroValue,hi,hz,hsize,hby,Builtin.lenOf,hroom,h63,h48,Question.forced,Builtin.firstCells,newRow,grownCap,Value.cells]
   rw[hfo2,Zek]
   simp only[Result.andThen_ok]
   congr 3
   apply Array.ext'
   simp
  ·refine⟨hB,by rw[List.length_append,hLs];exact hge,hle,_,(0,0),heap_alloc_new w.drew _,?_,?_,fun j _=>by omega⟩
   ·simp[Builtin.zeroCells,Zm,hLs];omega
   ·rw[Array.toList_append,Array.toList_append,List.toList_toArray,List.toList_toArray,← VQ]
    exact List.take_left' (by rw[Zm])
  ·exact Y9 (((Below.refl w.heap.size w).drew).alloc (by simp) _) _
end
section
variable {P:Program} {w:World} {B g c:Nat} {E:TypeId} {l:List UInt8}
theorem Xp {ops:Array Oper} {o:Oper} {a:Act} {K:Act→World→Prop} {Q:Exit→Act→World→Prop} {R:Prop} (hg:o.guard=none) (s x:Operand) (t u:TypeId)
  (ho:o.op=.call { callee:=.builtin .append,args:=#[s,x],argTypes:=#[t,u] })
  (ht:P.underlying t=some (.slice E)) (hu:P.underlying u=some .string) (hinfo:(P.info? E).map (fun i=>(i.zero,i.size,i.bytes))=some (some (.int .u8 0),1,1))
  (n:Nat) (hs:a.eval s=.slice (some ⟨g,0,none⟩) n c) (h:BR w B E g c l) (y:ByteArray) (hx:a.eval x=.string y)
  (hn:l.length=n) (hlim:n+y.size≤4294967296) (hB:B≤w.heap.size)
  (hK:∀ g' c' w',BR w' B E g' c' (l++L y)→Below B w w'→K (a.put o.dst (.slice (some ⟨g',0,none⟩) (n+y.size) c')) w') :
  if Region.wanted o (yielded ops a.tmps)=true then Oper.wp P o a w K Q else R:=by
 obtain⟨i,hi,hz,hsize,hby⟩:=info_parts hinfo
 have hw:Region.wanted o (yielded ops a.tmps)=true:=by simp[Region.wanted,hg]
 rw[if_pos hw]
 obtain⟨g',c',w',hr,h2,h3,h4⟩:=XX (P:=P) t u o.type i ht hu hi hz hsize hby h y n hn hlim hB
 unfold Oper.wp execOp
 simp only[ho,resolve,invoke,builtin,Sem.run_bind,Sem.run_pure,Result.andThen_ok,List.map_toArray,List.map_cons,List.map_nil,hs,hx,hr]
 exact hK g' c' w' h2 ((Below.refl B w).grown h3 hB (fun k hk=>by injection hk with hk;have:=h.1;omega))
end
def Z9 (r:List Int):List Value:=r.map (Value.int .i64)
theorem Qt (r:List Int):(Z9 r).length=r.length:=List.length_map ..
theorem ZkB {r:List Int} {j:Nat} {x:Int} (h:r[j]? = some x):(Z9 r)[j]? = some (.int .i64 x):=Zs _ h
theorem Zdu (a b:List Int):Z9 (a++b)=Z9 a++Z9 b:=List.map_append
theorem Yk (r:List Int):∀ v∈Z9 r,v.oneCell'=true:=fun v hv=>by
 obtain⟨x,_,rfl⟩:=List.mem_map.1 hv;rfl
def RowV (w:World) (B go:Nat) (u:Value) (r:List Int):Prop :=
 ∃ q c,u=.slice (some ⟨q,0,none⟩) r.length c∧r.length≤c∧c≤maxLen∧q<B∧q≠go∧∀ (j:Nat) (x:Int),r[j]? = some x→w.cell? ⟨q,j,none⟩=some (.int .i64 x)
def Gr (w:World) (B g:Nat) (m:List (List Int)):Prop:=g<B∧∀ (i:Nat) (r:List Int),m[i]? = some r→∃ u,w.cell? ⟨g,i,none⟩=some u∧RowV w B g u r
section
variable {w w':World} {B B' go:Nat} {u:Value} {r:List Int} {m:List (List Int)}
theorem RowV.below (h:RowV w B go u r) (hb:Below B' w w') (hB:B≤B'):RowV w' B go u r:=by
 obtain⟨q,c,e,h1,h2,h3,h4,h5⟩:=h
 exact⟨q,c,e,h1,h2,h3,h4,fun j x hx=>(hb.cell (p:=⟨q,j,none⟩) (by show q<B';omega)).trans (h5 j x hx)⟩
theorem RowV.more (h:RowV w B go u r) (hB:B≤B'):RowV w B' go u r:=by
 obtain⟨q,c,e,h1,h2,h3,h4,h5⟩:=h
 exact⟨q,c,e,h1,h2,by omega,h4,h5⟩
theorem Gr.below (h:Gr w B go m) (hb:Below B' w w') (hB:B≤B'):Gr w' B go m :=
 ⟨h.1,fun i r hr=>by
  obtain⟨u,hu,hv⟩:=h.2 i r hr
  exact⟨u,(hb.cell (p:=⟨go,i,none⟩) (by show go<B';have:=h.1;omega)).trans hu,hv.below hb hB⟩⟩
theorem Gr.more (h:Gr w B go m) (hB:B≤B'):Gr w B' go m :=
 ⟨by have:=h.1;omega,fun i r hr=>by
  obtain⟨u,hu,hv⟩:=h.2 i r hr
  exact⟨u,hu,hv.more hB⟩⟩
theorem Gr.row (h:Gr w B go m) {i:Nat} {r:List Int} (hr:m[i]? = some r):∃ q c,w.cell? ⟨go,i,none⟩=some (.slice (some ⟨q,0,none⟩) r.length c)∧r.length≤c∧c≤maxLen∧q<B∧∀ (j:Nat) (x:Int),r[j]? = some x→w.cell? ⟨q,j,none⟩=some (.int .i64 x):=by
 obtain⟨u,hu,q,c,rfl,h1,h2,h3,_,h5⟩:=h.2 i r hr
 exact⟨q,c,hu,h1,h2,h3,h5⟩
theorem RowV.ofOwn {E q n c:Nat} (h:Own w B E (.slice (some ⟨q,0,none⟩) n c) (Z9 r)) (hn:r.length=n) (hg:go<B):RowV w w.heap.size go (.slice (some ⟨q,0,none⟩) n c) r:=by
 subst hn
 obtain⟨A',c',hv,h1,h2,_⟩:=h.shape
 injection hv with e1 e2 e3
 subst e3
 have hl:=World.ownsRow.lt h q rfl
 rw[Qt] at h1
 exact⟨q,c,rfl,h1,h2,hl.2,by omega,fun j x hx=>by
  have h2:w.ownsRow B E 1 (.slice (some ⟨q,0,none⟩) r.length c) r.length (Z9 r):=by have:=h;unfold Own at this;rwa[Qt] at this
  rw[World.ownsRow.cellAt h2 j (by have:=(List.getElem?_eq_some_iff.1 hx).1;omega)]
  exact ZkB hx⟩
end
structure Bld (w:World) (B:Nat) (E:TypeId) (g n c:Nat) (vs:List Value) (rs:List (List Int)):Prop where
 own:Own w B E (.slice (some ⟨g,0,none⟩) n c) vs
 vlen:vs.length=n
 rlen:rs.length=n
 rows:∀ (i:Nat) (r:List Int),rs[i]? = some r→∃ u,vs[i]? = some u∧RowV w w.heap.size g u r
section
variable {w w':World} {B g n c:Nat} {E:TypeId} {vs:List Value} {rs:List (List Int)} {u:Value} {r:List Int}
theorem Bld.lt (h:Bld w B E g n c vs rs):B≤g∧g<w.heap.size:=World.ownsRow.lt h.own g rfl
theorem Bld.cap (h:Bld w B E g n c vs rs):n≤c∧c≤maxLen:=by
 obtain⟨A',c',hv,h1,h2,_⟩:=h.own.shape
 injection hv with e1 e2 e3
 subst e3
 rw[h.vlen] at h1
 exact⟨h1,h2⟩
theorem Bld.below (h:Bld w B E g n c vs rs) (hb:Below w.heap.size w w'):Bld w' B E g n c vs rs :=
 ⟨h.own.below hb,h.vlen,h.rlen,fun i r hr=>by
  obtain⟨u,hu,hv⟩:=h.rows i r hr
  exact⟨u,hu,(hv.below hb nlr).more hb.size⟩⟩
theorem Bld.lower {B':Nat} (h:Bld w B E g n c vs rs) (hB:B'≤B):Bld w B' E g n c vs rs:=⟨h.own.lower hB,h.vlen,h.rlen,h.rows⟩
theorem Bld.gr (h:Bld w B E g n c vs rs):Gr w w.heap.size g rs :=
 ⟨h.lt.2,fun i r hr=>by
  obtain⟨u,hu,hv⟩:=h.rows i r hr
  refine⟨u,?_,hv⟩
  have h2:w.ownsRow B E 1 (.slice (some ⟨g,0,none⟩) n c) n vs:=by have:=h.own;unfold Own at this;rwa[h.vlen] at this
  rw[World.ownsRow.cellAt h2 i (by have:=(List.getElem?_eq_some_iff.1 hu).1;have:=h.vlen;omega)]
  exact hu⟩
theorem Bld.add {v':Value} (h:Bld w B E g n c vs rs) (hr:RowV w w.heap.size g u r) (ho:Own w' B E v' (vs++[u])) (hg:w.grownBy w' (some g)) (hat:v'.ownBlock=some g∨v'.ownBlock=some w.heap.size) :
  ∃ g' c',v'=.slice (some ⟨g',0,none⟩) (n+1) c'∧Bld w' B E g' (n+1) c' (vs++[u]) (rs++[r]):=by
 have hl1:(vs++[u]).length=n+1:=by rw[List.length_append,h.vlen];rfl
 have hne:∃ g',v'.ownBlock=some g'∧(g'=g∨g'=w.heap.size):=by
  rcases hat with e|e
  ·exact⟨g,e,.inl rfl⟩
  ·exact⟨_,e,.inr rfl⟩
 obtain⟨g',he,hgg⟩:=hne
 have hv:∃ c',v'=.slice (some ⟨g',0,none⟩) (n+1) c':=by
  rcases ho.2 with ⟨rfl,hn⟩|⟨k,cap,cur,rfl,_⟩
  ·simp[Value.ownBlock] at he
  ·simp only[Value.ownBlock,Option.some.injEq] at he
   subst he
   exact⟨cap,by rw[hl1]⟩
 obtain⟨c',rfl⟩:=hv
 have hgl:=h.lt.2
 have keep:∀ u2 r2,RowV w w.heap.size g u2 r2→RowV w' w'.heap.size g' u2 r2:=fun u2 r2 hv=>by
  obtain⟨q,c2,e,h1,h2,h3,h4,h5⟩:=hv
  refine⟨q,c2,e,h1,h2,Nat.lt_of_lt_of_le h3 hg.size,by omega,fun j x hx=>?_⟩
  exact (hg.cell_far ⟨q,j,none⟩ h3 (by simpa using h4)).trans (h5 j x hx)
 refine⟨g',c',rfl,ho,hl1,by rw[List.length_append,h.rlen];rfl,fun i r2 hr2=>?_⟩
 by_cases hi:i<n
 ·rw[List.getElem?_append_left (by rw[h.rlen];exact hi)] at hr2
  obtain⟨u2,hu2,hv2⟩:=h.rows i r2 hr2
  exact⟨u2,by rw[List.getElem?_append_left (by rw[h.vlen];exact hi)];exact hu2,keep _ _ hv2⟩
 ·have hin:i=n:=by
   have:=(List.getElem?_eq_some_iff.1 hr2).1
   rw[List.length_append,h.rlen] at this
   simp at this;omega
  subst hin
  rw[List.getElem?_append_right (by rw[h.rlen];exact Nat.le_refl _),h.rlen,Nat.sub_self] at hr2
  simp at hr2
  subst hr2
  exact⟨u,by rw[List.getElem?_append_right (by rw[h.vlen];exact Nat.le_refl _),h.vlen,Nat.sub_self];rfl,keep _ _ hr⟩
theorem Bld.add4 {g' c':Nat} (h:Bld w B E g n c vs rs) (hr:RowV w w.heap.size g u r) (ha:App4 w w' B E g n c g' (n+1) c' (vs++[u])):Bld w' B E g' (n+1) c' (vs++[u]) (rs++[r]):=by
 have hl1:(vs++[u]).length=n+1:=by rw[List.length_append,h.vlen];rfl
 have keep:∀ u2 r2,RowV w w.heap.size g u2 r2→RowV w' w'.heap.size g' u2 r2:=fun u2 r2 hv=>by
  obtain⟨q,c2,e,h1,h2,h3,h4,h5⟩:=hv
  exact⟨q,c2,e,h1,h2,Nat.lt_of_lt_of_le h3 ha.size,ha.far q h3 h4,fun j x hx=>(ha.kept q j h3 (.inl h4)).trans (h5 j x hx)⟩
 refine⟨ha.own,hl1,by rw[List.length_append,h.rlen];rfl,fun i r2 hr2=>?_⟩
 by_cases hi:i<n
 ·rw[List.getElem?_append_left (by rw[h.rlen];exact hi)] at hr2
  obtain⟨u2,hu2,hv2⟩:=h.rows i r2 hr2
  exact⟨u2,by rw[List.getElem?_append_left (by rw[h.vlen];exact hi)];exact hu2,keep _ _ hv2⟩
 ·have hin:i=n:=by
   have:=(List.getElem?_eq_some_iff.1 hr2).1
   rw[List.length_append,h.rlen] at this
   simp at this;omega
  subst hin
  rw[List.getElem?_append_right (by rw[h.rlen];exact Nat.le_refl _),h.rlen,Nat.sub_self] at hr2
  simp at hr2
  subst hr2
  exact⟨u,by rw[List.getElem?_append_right (by rw[h.vlen];exact Nat.le_refl _),h.vlen,Nat.sub_self];rfl,keep _ _ hr⟩
theorem Bld.empty (w:World) (hB:B≤w.heap.size):Bld (w.alloc (.cells #[] E)) B E w.heap.size 0 0 [] [] :=
 ⟨Own.empty hB,rfl,rfl,fun i r hr=>by simp at hr⟩
end
theorem Qh {P:Program} {W:World} {ops:Array Oper} {o:Oper} {a:Act} {K:Act→World→Prop} {Q:Exit→Act→World→Prop} {R:Prop} {E:TypeId} {v:Value} {xs:List Value} (hg:o.guard=none) (s x:Operand) (t:TypeId)
  (ho:o.op=.call { callee:=.builtin .append,args:=#[s,x],argTypes:=#[t,t] })
  (z:Value) (bytes:Nat) (ht:P.underlying t=some (.slice E)) (hinfo:(P.info? E).map (fun i=>(i.zero,i.size,i.bytes))=some (some z,1,bytes)) (hzs:z.cells.size=1)
  (B n:Nat) (hxl:xs.length=n) (hs:a.eval s=v) (hown:Own W B E v xs) (ad:Addr) (k c2:Nat) (news:List Value) (hx:a.eval x=.slice (some ad) k c2)
  (hl:news.length=k) (hnews:∀ j u,news[j]? = some u→W.cell? (ad.add j)=some u) (h1:∀ u∈news,u.oneCell'=true)
  (nr:Nat) (hnr:n+k=nr) (hn:nr<4294967296) (hb16:bytes≤1024) (hB:B≤W.heap.size)
  (h:∀ A' c' w',Own w' B E (.slice A' nr c') (xs++news)→W.grownBy w' v.ownBlock→((Value.slice A' nr c').ownBlock=v.ownBlock∨(Value.slice A' nr c').ownBlock=some W.heap.size)→(Value.slice A' nr c'=.slice none 0 0↔v=.slice none 0 0∧k=0)→K (a.put o.dst (.slice A' nr c')) w') :
  if Region.wanted o (yielded ops a.tmps)=true then Oper.wp P o a W K Q else R:=by
 subst hxl hnr
 obtain⟨i,hi,hz,hsize,hby⟩:=info_parts hinfo
 have hw:Region.wanted o (yielded ops a.tmps)=true:=by simp[Region.wanted,hg]
 rw[if_pos hw]
 obtain⟨v',w',hr,h2,h3,h4,h5⟩:=run_append_own_at (P:=P) (w:=W) B t o.type E i z 1 bytes ht hi hz hsize hby hzs (by decide) v xs.length xs hown ad k c2 news (by rw[Nat.mul_one];exact hl) hnews h1 (by unfold maxLen;omega)
  (calc (xs.length+k) * bytes≤4294967296 * 1024:=Nat.mul_le_mul (by omega) hb16
   _≤140737488355328:=by decide) hB
 have h2':Own w' B E v' (xs++news):=by unfold Own;rw[List.length_append,hl];exact h2
 obtain⟨A',c',rfl,_⟩:=h2'.shape
 rw[List.length_append,hl] at h2' h5 h4 hr
 unfold Oper.wp execOp
 simp only[ho,resolve,invoke,builtin,Sem.run_bind,Sem.run_pure,Result.andThen_ok,List.map_toArray,List.map_cons,List.map_nil,hs,hx,hr]
 exact h A' c' w' h2' h3 h5 h4
open Classical in
noncomputable def ZaE (s:ByteArray) (e:Nat):Bool:=decide (Pow s e)
theorem Yt (s:ByteArray) (e:Nat):ZaE s e=true↔Pow s e:=by simp[ZaE]
theorem Zjl (s:ByteArray) (h0:isW (L s)=true) (w:World) :
  Calls Tryz.prog 194 #[.string s] w fun e w'=>e=.returned (.bool (!ZaE s 0))∧Below w.heap.size w w':=by
 have h4:=Zb h0
 have hs9:s.size≤maxLen:=by unfold maxLen;omega
 have hcp:=fun w=>Zgf s 0 (ZaE s 0) h0 (by decide) (Yt s 0) w
 have H0:=Hd h0;have HCP:=Hd hcp
 clear h0 hcp
 obtain⟨c,hc⟩:∃ c,ZaE s 0=c:=⟨_,rfl⟩
 rw[hc] at HCP
 rw[hc]
 clear hc
 go_enter Tryz.func194,Tryz.ntmps194
 go_wp2_with (go_at_call 27;with_reducible refine (Zl s _ hs9 H0.o _).mono ?_;rintro e w' ⟨rfl,rfl⟩)
 refine (HCP.o _).mono ?_
 rintro e w1 ⟨rfl,b1⟩
 cases c
 all_goals
  go_wp2_with fail
  go_ret
  exact⟨rfl,b1⟩
theorem Zjm (s:ByteArray) (h0:isW (L s)=true) (w:World) :
  Calls Tryz.prog 195 #[.string s] w fun e w'=>e=.returned (.bool (!ZaE s 1))∧Below w.heap.size w w':=by
 have h4:=Zb h0
 have hs9:s.size≤maxLen:=by unfold maxLen;omega
 have hcp:=fun w=>Zgf s 1 (ZaE s 1) h0 (by decide) (Yt s 1) w
 have H0:=Hd h0;have HCP:=Hd hcp
 clear h0 hcp
 obtain⟨c,hc⟩:∃ c,ZaE s 1=c:=⟨_,rfl⟩
 rw[hc] at HCP
 rw[hc]
 clear hc
 go_enter Tryz.func195,Tryz.ntmps195
 go_wp2_with (go_at_call 27;with_reducible refine (Zl s _ hs9 H0.o _).mono ?_;rintro e w' ⟨rfl,rfl⟩)
 refine (HCP.o _).mono ?_
 rintro e w1 ⟨rfl,b1⟩
 cases c
 all_goals
  go_wp2_with fail
  go_ret
  exact⟨rfl,b1⟩
theorem Zjn (s:ByteArray) (h0:isW (L s)=true) (w:World) :
  Calls Tryz.prog 151 #[.string s] w fun e w'=>e=.returned (.bool (!ZaE s 0))∧Below w.heap.size w w':=by
 have h4:=Zb h0
 have hs9:s.size≤maxLen:=by unfold maxLen;omega
 have hcp:=fun w=>ZdT s 0 (ZaE s 0) h4 (by decide) (Yt s 0) w
 have H0:=Hd h0;have HCP:=Hd hcp
 clear h0 hcp
 obtain⟨c,hc⟩:∃ c,ZaE s 0=c:=⟨_,rfl⟩
 rw[hc] at HCP
 rw[hc]
 clear hc
 go_enter Tryz.func151,Tryz.ntmps151
 go_wp2_with (go_at_call 43;with_reducible refine (Zi s _ hs9 H0.o _).mono ?_;rintro e w' ⟨rfl,rfl⟩)
 refine (HCP.o _).mono ?_
 rintro e w1 ⟨rfl,b1⟩
 cases c
 all_goals
  go_wp2_with fail
  go_ret
  exact⟨rfl,b1.below⟩
theorem Zjo (s:ByteArray) (h0:isW (L s)=true) (w:World) :
  Calls Tryz.prog 152 #[.string s] w fun e w'=>e=.returned (.bool (!ZaE s 1))∧Below w.heap.size w w':=by
 have h4:=Zb h0
 have hs9:s.size≤maxLen:=by unfold maxLen;omega
 have hcp:=fun w=>ZdT s 1 (ZaE s 1) h4 (by decide) (Yt s 1) w
 have H0:=Hd h0;have HCP:=Hd hcp
 clear h0 hcp
 obtain⟨c,hc⟩:∃ c,ZaE s 1=c:=⟨_,rfl⟩
 rw[hc] at HCP
 rw[hc]
 clear hc
 go_enter Tryz.func152,Tryz.ntmps152
 go_wp2_with (go_at_call 43;with_reducible refine (Zi s _ hs9 H0.o _).mono ?_;rintro e w' ⟨rfl,rfl⟩)
 refine (HCP.o _).mono ?_
 rintro e w1 ⟨rfl,b1⟩
 cases c
 all_goals
  go_wp2_with fail
  go_ret
  exact⟨rfl,b1.below⟩
def Ze3 (s:ByteArray) (v:Nat):Prop:=1≤v∧v≤s.size∧ZaU s 0 s.size v∧∀ q,1≤q→q<v→¬ ZaU s 0 s.size q
theorem Zjp {P:Nat→Prop}:∀ n,P n→∃ v,v≤n∧P v∧∀ q,q<v→¬ P q:=fun n=>by
 induction n using Nat.strongRecOn with
 | _ n ih =>
  intro h
  by_cases hx:∃ m,m<n∧P m
  ·obtain⟨m,hm,hp⟩:=hx
   obtain⟨v,h1,h2,h3⟩:=ih m hm hp
   exact⟨v,by omega,h2,h3⟩
  ·exact⟨n,Nat.le_refl _,h,fun q hq hp=>hx ⟨q,hq,hp⟩⟩
theorem Zhg (s:ByteArray) (h:s.size≠0):∃ v,Ze3 s v:=by
 obtain⟨v,h1,h2,h3⟩:=Zjp (P:=fun v=>1≤v∧ZaU s 0 s.size v) s.size ⟨by omega,fun k h1 h2=>by omega⟩
 exact⟨v,h2.1,h1,h2.2,fun q q1 q2 q3=>h3 q q2 ⟨q1,q3⟩⟩
def ZlF (s:ByteArray) (v:Nat):Prop:=(s.size=0∧v=0)∨(s.size≠0∧Ze3 s v)
theorem Zgb (s:ByteArray):∃ v,ZlF s v:=by
 by_cases h:s.size=0
 ·exact⟨0,Or.inl ⟨h,rfl⟩⟩
 ·obtain⟨v,hv⟩:=Zhg s h
  exact⟨v,Or.inr ⟨h,hv⟩⟩
noncomputable def lpN (s:ByteArray):Nat:=Classical.choose (Zgb s)
theorem Ze4 (s:ByteArray):ZlF s (lpN s):=Classical.choose_spec (Zgb s)
theorem Ze5 (s:ByteArray):lpN s≤s.size:=by
 rcases Ze4 s with ⟨_,h⟩|⟨_,h⟩
 ·omega
 ·exact h.2.1
theorem ZlG (s:ByteArray) (v:Nat) (h4:s.size≤400) (hv:ZlF s v) (w:World) :
  Calls Tryz.prog 249 #[.string s] w fun e w'=>e=.returned (.int .i64 v)∧Dr w w':=by
 rcases hv with ⟨hz,rfl⟩|⟨hz,hv⟩
 ·have hz1:(s.size:Int)<1:=by omega
  clear hz
  go_enter Tryz.func249,Tryz.ntmps249
  go_wp2_with fail
  go_loopw [3] (fun u wr=>u=.int .i64 1∧Dr w wr) (fun u _=>0)
  case atStart=>exact⟨rfl,Dr.refl _⟩
  case round =>
   obtain⟨rfl,hd⟩:=hrel
   go_wp2_with fail
   go_ret
   exact⟨rfl,hd⟩
 ·obtain⟨hv1,hv2,hv3,hv4⟩:=hv
  have HV3:=Hd hv3;have HV4:=Hd hv4
  clear hv3 hv4
  go_enter Tryz.func249,Tryz.ntmps249
  go_wp2_with fail
  go_loopw [3] (fun u wr=>∃ p:Nat,1≤p∧p≤v∧u=.int .i64 p∧Dr w wr) (fun u _=>v+1 - (intOf u).toNat)
  case atStart=>exact⟨1,by omega,by omega,rfl,Dr.refl _⟩
  case round =>
   obtain⟨p,hp1,hp2,rfl,hd⟩:=hrel
   have hps:(p:Int)≤(s.size:Int):=by omega
   by_cases hlt:p<v
   ·have hcp:=fun w=>WN s 0 s.size p false h4 (by omega) (by omega) (by omega) ⟨(fun h=>by cases h),fun h=>absurd h.2 (HV4.o p hp1 hlt)⟩ w
    have HCP:=Hd hcp
    clear hcp
    go_wp2_with fail
    refine (HCP.o _).mono ?_
    rintro e w1 ⟨rfl,d1⟩
    go_wp2_with fail
    go_roundw
    case rel=>exact⟨p+1,by omega,by omega,by go_num,hd.trans d1⟩
    case measure=>simp[intOf];omega
   ·have hpe:p=v:=by omega
    subst hpe
    have hcp:=fun w=>WN s 0 s.size p true h4 (by omega) (by omega) (by omega) ⟨fun h=>⟨by omega,HV3.o⟩,fun h=>rfl⟩ w
    have HCP:=Hd hcp
    clear hcp
    go_wp2_with fail
    refine (HCP.o _).mono ?_
    rintro e w1 ⟨rfl,d1⟩
    go_wp2_with fail
    go_ret
    exact⟨rfl,hd.trans d1⟩
set_option maxRecDepth 4000 in
set_option maxHeartbeats 1000000 in
theorem ZlH (s:ByteArray) (v:Nat) (h4:s.size≤400) (hv:Ze3 s v) (w:World) :
  Calls Tryz.prog 225 #[.string s] w fun e w'=>e=.returned (.int .i64 v)∧Dr w w':=by
 obtain⟨hv1,hv2,hv3,hv4⟩:=hv
 have HV3:=Hd hv3;have HV4:=Hd hv4
 clear hv3 hv4
 go_enter Tryz.func225,Tryz.ntmps225
 go_wp2_with fail
 go_loopw [3,4,5] (fun u _ _ wr=>∃ p:Nat,1≤p∧p≤v∧u=.int .i64 p∧Dr w wr) (fun u _ _ _=>v+1 - (intOf u).toNat)
 case atStart=>exact⟨1,by omega,by omega,rfl,Dr.refl _⟩
 case round =>
  obtain⟨p,hp1,hp2,rfl,hd0⟩:=hrel
  go_wp2_with fail
  go_loopw [4,5] (fun a i wr=>∃ (k:Nat) (sm:Bool),k+p≤s.size∧a=.bool sm∧i=.int .i64 k∧(sm=true↔∀ j,j<k→gl s 0 j=gl s 0 (j+p))∧Dr w wr) (fun _ i _=>s.size+1 - (intOf i).toNat)
  case atStart=>exact⟨0,true,by omega,rfl,rfl,⟨fun _ j h=>by omega,fun _=>rfl⟩,hd0⟩
  case round =>
   obtain⟨k,sm,hk,rfl,rfl,hsm,hd⟩:=hrel
   have HSM:=Hd hsm
   clear hsm
   by_cases hks:k+p<s.size
   ·have hks2:(k:Int)+(p:Int)<(s.size:Int):=by omega
    have hk1:k<s.size:=by omega
    obtain⟨q,hq⟩:∃ q:Nat,k+p=q:=⟨_,rfl⟩
    have hqs:q<s.size:=by omega
    have hq2:(k:Int)+(p:Int)=(q:Int):=by omega
    have hki:(k:Int)<(s.size:Int):=by omega
    have hqi:(q:Int)<(s.size:Int):=by omega
    obtain⟨x,hx⟩:∃ x,s[k]'hk1=x:=⟨_,rfl⟩
    obtain⟨y,hy⟩:∃ y,s[q]'hqs=y:=⟨_,rfl⟩
    have hgx:gl s 0 k=x.toNat:=by rw[gl0 hk1,hx]
    have hgy:gl s 0 (k+p)=y.toNat:=by rw[hq,gl0 hqs,hy]
    have HX:=Hd hgx;have HY:=Hd hgy
    clear hgx hgy hq
    cases sm
    ·go_wp2_with fail
     go_quiet (fail)
     go_wp2_with fail
     go_roundw
     case rel=>exact⟨k+1,false,by omega,rfl,by go_num,⟨(fun h=>by cases h),fun h=>HSM.o.2 fun j hj=>h j (by omega)⟩,hd.drewN _⟩
     case measure=>simp[intOf];omega
    ·by_cases hc:x.toNat=y.toNat
     ·have hne:((x.toNat:Int)==(y.toNat:Int))=true:=by simp;omega
      have HC:=Hd hc
      clear hc
      go_wp2_with fail
      go_quiet (fail)
      go_wp2_with fail
      go_roundw
      case rel=>exact⟨k+1,true,by omega,rfl,by go_num,⟨fun _ j hj=>by
       rcases Nat.lt_or_ge j k with h|h
       ·exact HSM.o.1 (by trivial) j h
       ·obtain rfl:j=k:=by omega
        rw[HX.o,HY.o];exact HC.o,fun _=>rfl⟩,hd.drewN _⟩
      case measure=>simp[intOf];omega
     ·have hne:((x.toNat:Int)==(y.toNat:Int))=false:=by simp;omega
      have HC:=Hd hc
      clear hc
      go_wp2_with fail
      go_quiet (fail)
      go_wp2_with fail
      go_roundw
      case rel=>exact⟨k+1,false,by omega,rfl,by go_num,⟨(fun h=>by cases h),fun h=>absurd (h k (by omega)) (by rw[HX.o,HY.o];exact HC.o)⟩,hd.drewN _⟩
      case measure=>simp[intOf];omega
   ·have hge:¬ (k:Int)+(p:Int)<(s.size:Int):=by omega
    have hend:sm=true↔ZaU s 0 s.size p:=HSM.o.trans ⟨fun h j h1 h2=>h j (by omega),fun h j hj=>h j (by omega) (by omega)⟩
    by_cases hlt:p<v
    ·have hsm:sm=false:=by cases sm with
      | false=>rfl
      | true=>exact absurd (hend.1 rfl) (HV4.o p hp1 hlt)
     clear hend
     subst hsm
     go_wp2_with fail
     go_roundw
     case rel=>exact⟨p+1,by omega,by omega,by go_num,hd⟩
     case measure=>simp[intOf];omega
    ·have hpe:p=v:=by omega
     subst hpe
     have hsm:sm=true:=hend.2 HV3.o
     clear hend
     subst hsm
     go_wp2_with fail
     go_ret
     exact⟨rfl,hd⟩
theorem Zjq (s:ByteArray) (h0:isW (L s)=true) (w:World) :
  Calls Tryz.prog 191 #[.string s] w fun e w'=>e=.returned (.int .i64 (lpN s))∧Dr w w':=by
 have h4:=Zb h0
 have hs9:s.size≤maxLen:=by unfold maxLen;omega
 have hlp:=Ze4 s
 obtain⟨v,hv⟩:∃ v,lpN s=v:=⟨_,rfl⟩
 rw[hv] at hlp ⊢
 have H0:=Hd h0;have HLP:=Hd hlp
 clear h0 hlp hv
 go_enter Tryz.func191,Tryz.ntmps191
 go_wp2_with (go_at_call 27;with_reducible refine (Zl s _ hs9 H0.o _).mono ?_;rintro e w' ⟨rfl,rfl⟩)
 refine (ZlG s v h4 HLP.o _).mono ?_
 rintro e w1 ⟨rfl,d1⟩
 go_wp2_with fail
 go_ret
 exact⟨rfl,d1⟩
theorem Zjr (s:ByteArray) (h0:isW (L s)=true) (w:World) :
  Calls Tryz.prog 148 #[.string s] w fun e w'=>e=.returned (.int .i64 (lpN s))∧Dr w w':=by
 have h4:=Zb h0
 have hs9:s.size≤maxLen:=by unfold maxLen;omega
 have hlp:=Ze4 s
 obtain⟨v,hv⟩:∃ v,lpN s=v:=⟨_,rfl⟩
 rw[hv] at hlp ⊢
 have H0:=Hd h0;have HLP:=Hd hlp
 clear h0 hlp hv
 rcases HLP.o with ⟨hz,rfl⟩|⟨hz,hv⟩
 ·have hne:s.toList.isEmpty=true:=by
   rw[ByteArray.toList_eq]
   have:=Zj s
   rw[List.isEmpty_iff]
   exact List.eq_nil_of_length_eq_zero (by rw[← hz];exact this)
  clear hz
  go_enter Tryz.func148,Tryz.ntmps148
  go_wp2_with (go_at_call 43;with_reducible refine (Zi s _ hs9 H0.o _).mono ?_;rintro e w' ⟨rfl,rfl⟩)
  go_ret
  exact⟨rfl,Dr.refl _⟩
 ·have hne:s.toList.isEmpty=false:=by
   rw[ByteArray.toList_eq]
   cases hc:s.data.toList with
   | nil=>have:=Zj s;rw[L,hc] at this;exact absurd this.symm hz
   | cons a b=>rfl
  have HV:=Hd hv
  clear hz hv
  go_enter Tryz.func148,Tryz.ntmps148
  go_wp2_with (go_at_call 43;with_reducible refine (Zi s _ hs9 H0.o _).mono ?_;rintro e w' ⟨rfl,rfl⟩)
  refine (ZlH s v h4 HV.o _).mono ?_
  rintro e w1 ⟨rfl,d1⟩
  go_wp2_with fail
  go_ret
  exact⟨rfl,d1⟩
def lrN (s:ByteArray):Nat→Nat→Nat→Nat→Nat
 | 0,_,_,m=>m
 | n+1,k,r,m=>if 0<k∧gl s 0 k=gl s 0 (k - 1) then lrN s n (k+1) (r+1) (max m (r+1)) else lrN s n (k+1) 1 (max m 1)
def lrV (s:ByteArray):Nat:=lrN s s.size 0 0 0
theorem ZeT (s:ByteArray):∀ n k r m,r≤k→m≤k→lrN s n k r m≤k+n
 | 0,k,r,m,h1,h2=>by rw[lrN];omega
 | n+1,k,r,m,h1,h2=>by
  rw[lrN]
  by_cases h:0<k∧gl s 0 k=gl s 0 (k - 1)
  ·rw[if_pos h];have:=ZeT s n (k+1) (r+1) (max m (r+1)) (by omega) (by omega);omega
  ·rw[if_neg h];have:=ZeT s n (k+1) 1 (max m 1) (by omega) (by omega);omega
theorem ZeU (s:ByteArray):lrV s≤s.size:=by have:=ZeT s s.size 0 0 0 (by omega) (by omega);unfold lrV;omega
theorem ZkG (s:ByteArray) (h0:isW (L s)=true) (w:World) :
  Calls Tryz.prog 192 #[.string s] w fun e w'=>e=.returned (.int .i64 (lrV s))∧Dr w w':=by
 have h4:=Zb h0
 have hs9:s.size≤maxLen:=by unfold maxLen;omega
 obtain⟨v,hv⟩:∃ v,lrV s=v:=⟨_,rfl⟩
 rw[hv]
 have H0:=Hd h0;have HV:=Hd hv
 clear h0 hv
 go_enter Tryz.func192,Tryz.ntmps192
 go_wp2_with (go_at_call 27;with_reducible refine (Zl s _ hs9 H0.o _).mono ?_;rintro e w' ⟨rfl,rfl⟩)
 go_loopw [3,4,5,11] (fun a b _ i wr=>∃ k r m:Nat,k≤s.size∧r≤k∧m≤k∧a=.int .i64 m∧b=.int .i64 r∧i=.int .i64 k∧lrN s (s.size - k) k r m=v∧Dr w wr) (fun _ _ _ i _=>s.size+1 - (intOf i).toNat)
 case atStart=>exact⟨0,0,0,by omega,by omega,by omega,rfl,rfl,rfl,HV.o,Dr.refl _⟩
 case round =>
  obtain⟨k,r,m,hk,hr,hm,rfl,rfl,rfl,hg,hd⟩:=hrel
  have HG:=Hd hg
  clear hg
  by_cases hlt:k<s.size
  ·have hlti:(k:Int)<(s.size:Int):=by omega
   obtain⟨x,hx⟩:∃ x,s[k]'hlt=x:=⟨_,rfl⟩
   have hgx:gl s 0 k=x.toNat:=by rw[gl0 hlt,hx]
   by_cases hk0:k=0
   ·have hr0:r=0:=by omega
    have hm0:m=0:=by omega
    have hgu:decide (0<k)=false:=decide_eq_false (by omega)
    have hstep:lrN s (s.size - k) k r m=lrN s (s.size - (k+1)) (k+1) 1 1:=by
     rw[show s.size - k=(s.size - (k+1))+1 by omega,lrN,if_neg (by omega),hm0];rfl
    have HS:=Hd hstep
    have HK0:=Hd hk0;have HR0:=Hd hr0;have HM0:=Hd hm0
    clear hstep hgx hk0 hr0 hm0
    go_wp2_with fail
    go_quiet (fail)
    go_wp2_with fail
    skip
    go_roundw
    case rel=>exact⟨k+1,1,1,by omega,by omega,by omega,by have h1:=HR0.o;have h2:=HM0.o;subst h1;subst h2;go_num,by have h1:=HR0.o;subst h1;go_num,by go_num,by rw[← HS.o];exact HG.o,hd.drewN _⟩
    case measure=>(simp[intOf];omega)
   ·obtain⟨q,hq⟩:∃ q,k=q+1:=⟨k - 1,by omega⟩
    have hqs:q<s.size:=by omega
    obtain⟨y,hy⟩:∃ y,s[q]'hqs=y:=⟨_,rfl⟩
    have hgy:gl s 0 (k - 1)=y.toNat:=by rw[show k - 1=q by omega,gl0 hqs,hy]
    have hgu:decide (0<k)=true:=decide_eq_true (by omega)
    have hk0i:(0:Int)<(k:Int):=by omega
    have hq1:(k:Int) - 1=(q:Int):=by omega
    have hqi:(q:Int)<(s.size:Int):=by omega
    clear hq
    by_cases hc:x.toNat=y.toNat
    ·have hne:((x.toNat:Int) != (y.toNat:Int))=false:=by simp;omega
     have hne2:((x.toNat:Int)==(y.toNat:Int))=true:=by simp;omega
     have hstep:lrN s (s.size - k) k r m=lrN s (s.size - (k+1)) (k+1) (r+1) (max m (r+1)):=by
      rw[show s.size - k=(s.size - (k+1))+1 by omega,lrN,if_pos ⟨by omega,by rw[hgx,hgy];exact hc⟩]
     have HS:=Hd hstep
     clear hstep hgx hgy hc
     go_wp2_with fail
     go_quiet (fail)
     go_wp2_with fail
     skip
     go_roundw
     case rel=>exact⟨k+1,r+1,max m (r+1),by omega,by omega,by omega,by go_num,by go_num,by go_num,by rw[← HS.o];exact HG.o,hd.drewN _⟩
     case measure=>(simp[intOf];omega)
    ·have hne:((x.toNat:Int) != (y.toNat:Int))=true:=by simp;omega
     have hne2:((x.toNat:Int)==(y.toNat:Int))=false:=by simp;omega
     have hstep:lrN s (s.size - k) k r m=lrN s (s.size - (k+1)) (k+1) 1 (max m 1):=by
      rw[show s.size - k=(s.size - (k+1))+1 by omega,lrN,if_neg (fun h=>hc (by rw[← hgx,← hgy];exact h.2))]
     have HS:=Hd hstep
     clear hstep hgx hgy hc
     go_wp2_with fail
     go_quiet (fail)
     go_wp2_with fail
     skip
     go_roundw
     case rel=>exact⟨k+1,1,max m 1,by omega,by omega,by omega,by go_num,by go_num,by go_num,by rw[← HS.o];exact HG.o,hd.drewN _⟩
     case measure=>(simp[intOf];omega)
  ·have hke:k=s.size:=by omega
   subst hke
   have hfin:m=v:=by rw[← HG.o,Nat.sub_self];rfl
   subst hfin
   go_wp2_with fail
   go_ret
   exact⟨rfl,hd⟩
theorem ZkH (s:ByteArray) (h0:isW (L s)=true) (w:World) :
  Calls Tryz.prog 149 #[.string s] w fun e w'=>e=.returned (.int .i64 (lrV s))∧Below w.heap.size w w':=by
 have h4:=Zb h0
 have hs9:s.size≤maxLen:=by unfold maxLen;omega
 obtain⟨v,hv⟩:∃ v,lrV s=v:=⟨_,rfl⟩
 rw[hv]
 have H0:=Hd h0;have HV:=Hd hv
 clear h0 hv
 go_enter Tryz.func149,Tryz.ntmps149
 go_wp2_with (go_at_call 43;with_reducible refine (Zi s _ hs9 H0.o _).mono ?_;rintro e w' ⟨rfl,rfl⟩)
 go_loopw [3,4,5] (fun a b _ wr=>∃ k r m:Nat,k≤s.size∧r≤k∧m≤k∧a=.int .i64 m∧b=.int .i64 r∧lrN s (s.size - k) k r m=v∧wr.heap[w.heap.size]? = some (.stringIter s k)∧Below w.heap.size w wr) (fun _ _ _ wr=>s.size+1 - wr.iterPos w.heap.size)
 case atStart=>exact⟨0,0,0,by omega,by omega,by omega,rfl,rfl,HV.o,World.iter_heap w s 0,(Below.refl _ _).alloc nlr _⟩
 case round =>
  obtain⟨k,r,m,hk,hr,hm,rfl,rfl,hg,hit,hbel⟩:=hrel
  have HG:=Hd hg;have HIT:=Hd hit
  clear hg
  by_cases hlt:k<s.size
  ·have hlti:(k:Int)<(s.size:Int):=by omega
   have hnx0:=fun ty=>Lib.run_next_ascii_at (P:=Tryz.prog) wr w.heap.size s k ty hit hlt (ZaV H0.o k hlt)
   have hiti:=Lib.iterAt_heap wr w.heap.size s k (k+1) hit
   have hbi:=Lib.below_iterAt hbel (k:=w.heap.size) (by omega) s (k+1)
   obtain⟨wi,hwi⟩:∃ wi,wr.iterAt w.heap.size s (k+1)=wi:=⟨_,rfl⟩
   rw[hwi] at hiti hbi
   simp only[hwi] at hnx0
   have HITI:=Hd hiti
   clear hiti hwi hit
   obtain⟨x,hx⟩:∃ x,s[k]'hlt=x:=⟨_,rfl⟩
   have hgx:gl s 0 k=x.toNat:=by rw[gl0 hlt,hx]
   by_cases hk0:k=0
   ·have hr0:r=0:=by omega
    have hm0:m=0:=by omega
    have hgu:decide (0<k)=false:=decide_eq_false (by omega)
    have hstep:lrN s (s.size - k) k r m=lrN s (s.size - (k+1)) (k+1) 1 1:=by
     rw[show s.size - k=(s.size - (k+1))+1 by omega,lrN,if_neg (by omega),hm0];rfl
    have HS:=Hd hstep
    have HK0:=Hd hk0;have HR0:=Hd hr0;have HM0:=Hd hm0
    clear hstep hgx hk0 hr0 hm0
    go_wp2_with fail
    go_quiet (fail)
    go_wp2_with fail
    skip
    go_roundw
    case rel=>exact⟨k+1,1,1,by omega,by omega,by omega,by have h1:=HR0.o;have h2:=HM0.o;subst h1;subst h2;go_num,by have h1:=HR0.o;subst h1;go_num,by rw[← HS.o];exact HG.o,HITI.o,hbi.trans ((Dr.refl wi).drewN _).below⟩
    case measure=>(simp only[World.iterPos,HIT.o,show ∀ n,(wi.drewN n).heap=wi.heap from fun n ↦ rfl,HITI.o];omega)
   ·obtain⟨q,hq⟩:∃ q,k=q+1:=⟨k - 1,by omega⟩
    have hqs:q<s.size:=by omega
    obtain⟨y,hy⟩:∃ y,s[q]'hqs=y:=⟨_,rfl⟩
    have hgy:gl s 0 (k - 1)=y.toNat:=by rw[show k - 1=q by omega,gl0 hqs,hy]
    have hgu:decide (0<k)=true:=decide_eq_true (by omega)
    have hk0i:(0:Int)<(k:Int):=by omega
    have hq1:(k:Int) - 1=(q:Int):=by omega
    have hqi:(q:Int)<(s.size:Int):=by omega
    clear hq
    by_cases hc:x.toNat=y.toNat
    ·have hne:((x.toNat:Int) != (y.toNat:Int))=false:=by simp;omega
     have hne2:((x.toNat:Int)==(y.toNat:Int))=true:=by simp;omega
     have hstep:lrN s (s.size - k) k r m=lrN s (s.size - (k+1)) (k+1) (r+1) (max m (r+1)):=by
      rw[show s.size - k=(s.size - (k+1))+1 by omega,lrN,if_pos ⟨by omega,by rw[hgx,hgy];exact hc⟩]
     have HS:=Hd hstep
     clear hstep hgx hgy hc
     go_wp2_with fail
     go_quiet (fail)
     go_wp2_with fail
     skip
     go_roundw
     case rel=>exact⟨k+1,r+1,max m (r+1),by omega,by omega,by omega,by go_num,by go_num,by rw[← HS.o];exact HG.o,HITI.o,hbi.trans ((Dr.refl wi).drewN _).below⟩
     case measure=>(simp only[World.iterPos,HIT.o,show ∀ n,(wi.drewN n).heap=wi.heap from fun n ↦ rfl,HITI.o];omega)
    ·have hne:((x.toNat:Int) != (y.toNat:Int))=true:=by simp;omega
     have hne2:((x.toNat:Int)==(y.toNat:Int))=false:=by simp;omega
     have hstep:lrN s (s.size - k) k r m=lrN s (s.size - (k+1)) (k+1) 1 (max m 1):=by
      rw[show s.size - k=(s.size - (k+1))+1 by omega,lrN,if_neg (fun h=>hc (by rw[← hgx,← hgy];exact h.2))]
     have HS:=Hd hstep
     clear hstep hgx hgy hc
     go_wp2_with fail
     go_quiet (fail)
     go_wp2_with fail
     skip
     go_roundw
     case rel=>exact⟨k+1,1,max m 1,by omega,by omega,by omega,by go_num,by go_num,by rw[← HS.o];exact HG.o,HITI.o,hbi.trans ((Dr.refl wi).drewN _).below⟩
     case measure=>(simp only[World.iterPos,HIT.o,show ∀ n,(wi.drewN n).heap=wi.heap from fun n ↦ rfl,HITI.o];omega)
  ·have hke:k=s.size:=by omega
   subst hke
   have hfin:m=v:=by rw[← HG.o,Nat.sub_self];rfl
   subst hfin
   have hnx0:=fun ty=>Lib.run_next_end_at (P:=Tryz.prog) wr w.heap.size s s.size ty hit (by omega)
   clear hit
   go_wp2_with fail
   go_ret
   exact⟨rfl,hbel⟩
def fcT (s:ByteArray) (n k:Nat):List ByteArray:=(List.range k).map fun i=>s.extract i (i+n)
def fc (s:ByteArray) (n:Nat):List ByteArray:=fcT s n (s.size+1 - n)
theorem Vt (s:ByteArray) (n k:Nat):(fcT s n k).length=k:=by simp[fcT]
theorem Zc7 (s:ByteArray) (n k:Nat):fcT s n (k+1)=fcT s n k++[s.extract k (k+n)]:=by
 unfold fcT;rw[List.range_succ,List.map_append];rfl
theorem ZgL (l:List ByteArray) (x:ByteArray):Jf (l++[x])=VI (Jf l) x:=by simp[Jf]
set_option maxRecDepth 4000 in
set_option maxHeartbeats 1000000 in
theorem Wf (s:ByteArray) (n:Nat) (hs:s.size≤400) (hn:n≤1000) (w:World) :
  Calls Tryz.prog 233 #[.string s,.int .i64 n] w fun e w'=>∃ g c,e=.returned (.slice (some ⟨g,0,none⟩) (Jf (fc s n)).length c)∧StrAt w' g c (Jf (fc s n))∧Below w.heap.size w w':=by
 obtain⟨r,hr⟩:∃ r,Jf (fc s n)=r:=⟨_,rfl⟩
 have HR:=Hd hr
 rw[hr];clear hr
 go_enter Tryz.func233,Tryz.ntmps233
 go_wp2_with fail
 go_loopw [5,6] (fun v i wr=>∃ k m g c,k≤s.size+1 - n∧m≤k∧i=.int .i64 (k:Nat)∧(Jf (fcT s n k)).length=m∧v=.slice (some ⟨g,0,none⟩) m c∧StrAt wr g c (Jf (fcT s n k))∧Below w.heap.size w wr) (fun _ i _=>s.size+1 - (intOf i).toNat)
 case atStart =>
  refine⟨0,0,w.heap.size,0,by omega,by omega,rfl,rfl,rfl,⟨Nat.le_refl _,Nat.zero_le _,by simp,fun j s h=>?_⟩,(Below.refl _ _).alloc nlr _⟩
  simp[fcT,Jf] at h
 case round =>
  obtain⟨k,m,g,c,hk,hmk,rfl,hlm,rfl,hst,hbel⟩:=hrel
  have HST:=Hd hst;have HLM:=Hd hlm;clear hst hlm
  by_cases hlt:k+n≤s.size
  ·have hci:=Zax (Jf (fcT s n k)) (s.extract k (k+n)) g c
   rw[HLM.o,← ZgL,← Zc7] at hci
   have HCI:=Hd (hci _ (by omega) HST.o)
   have hl1:(Jf (fcT s n (k+1))).length≤k+1:=by have:=ZdL (fcT s n (k+1));rw[Vt] at this;exact this
   obtain⟨m2,hm2⟩:∃ m2,(Jf (fcT s n (k+1))).length=m2:=⟨_,rfl⟩
   rw[hm2] at hl1
   have HM2:=Hd hm2
   clear hci hm2
   go_wp2_with fail
   refine HCI.o.mono ?_
   rw[HM2.o]
   rintro e w2 ⟨g2,c2,rfl,hst2,b2⟩
   have HST2:=Hd hst2;clear hst2
   go_wp2_with fail
   go_roundw
   case rel=>exact⟨k+1,m2,g2,c2,by omega,by omega,by go_num,HM2.o,rfl,HST2.o,hbel.trans (b2.mono hbel.size)⟩
   case measure=>simp[intOf];omega
  ·have hkn:k=s.size+1 - n:=by omega
   have hfin:Jf (fcT s n k)=r:=by rw[hkn];exact HR.o
   have hrl:r.length=m:=by rw[← hfin];exact HLM.o
   have HF:=Hd hfin;have HRL:=Hd hrl
   have hlt2:¬ ((k:Int)+n≤s.size):=by omega
   clear hkn hfin hrl
   go_wp2_with fail
   go_ret
   exact⟨g,c,by rw[HRL.o];rfl,by rw[← HF.o];exact HST.o,hbel⟩
theorem V2:∀ l:List UInt8,clP l=l.take (clP l).length∧(l.drop (clP l).length).reverse=l.drop (clP l).length∧∀ j,j<(clP l).length→¬ (l.drop j).reverse=l.drop j
 | []=>⟨rfl,rfl,fun j h=>by cases h⟩
 | d :: l=>by
  by_cases h:(d :: l).reverse=d :: l
  ·rw[Zkh h]
   exact⟨rfl,h,fun j h=>by cases h⟩
  ·obtain⟨h1,h2,h3⟩:=V2 l
   rw[Zlr h]
   refine⟨?_,h2,fun j hj=>?_⟩
   ·rw[List.length_cons,List.take_succ_cons,← h1]
   ·cases j with
    | zero=>exact h
    | succ j=>exact h3 j (by simpa using hj)
theorem V3 (s:ByteArray) (j:Nat):Jg (s.extract j s.size)=decide (((L s).drop j).reverse=(L s).drop j):=by
 rw[ZhS,Zi2]
theorem Zkf (a b:ByteArray):L (a++b)=L a++L b:=by simp[L,ByteArray.data_append]
theorem ZhR (s:ByteArray):s++trn (s.extract 0 (clP (L s)).length)=clS s:=by
 apply ZH
 show L _=L _
 rw[Zkf,trn,Zy,rv,Zmc,← (V2 (L s)).1,clS,Zy,clL]
theorem XZ (s:ByteArray):(clS s).size≤2 * s.size:=by
 rw[clS,Zh]
 have:=Zki (L s)
 rwa[Zj] at this
theorem Zes (s:ByteArray) (hs:s.size≤400) (w:World) :
  Calls Tryz.prog 190 #[.string s] w fun e w'=>e=.returned (.string (clS s))∧Below w.heap.size w w':=by
 obtain⟨h1,h2,h3⟩:=V2 (L s)
 by_cases h0:s.size=0
 ·have hv:clS s={ data:=#[] }:=by
   have hl:L s=[]:=List.eq_nil_of_length_eq_zero (by rw[Zj];exact h0)
   apply ZH
   show L _=[]
   rw[clS,Zy,clL,hl,Zkg];rfl
  rw[hv]
  have hz:(s.size:Int)=0:=by omega
  clear h1 h2 h3 hv
  go_enter Tryz.func190,Tryz.ntmps190
  go_wp2_with fail
  go_loopw [3,6] (fun _ i wr=>i=.int .i64 0∧Below w.heap.size w wr) (fun _ i _=>0)
  case atStart=>exact⟨rfl,Below.refl _ _⟩
  case round =>
   obtain⟨rfl,hb⟩:=hrel
   go_wp2_with fail
   go_ret
   exact⟨rfl,hb⟩
 ·have hlt:=ZhT (l:=L s) (by rw[Zj];omega)
  rw[Zj] at hlt
  exact ZgI s (clS s) (clP (L s)).length hs hlt (fun j hj=>by rw[V3,decide_eq_false (h3 j hj)]) (by rw[V3,decide_eq_true h2]) (ZhR s) w
set_option maxHeartbeats 2000000 in
theorem Zbn (s:ByteArray) (hs:s.size≤400) (w:World) :
  Calls Tryz.prog 178 #[.string s] w fun e w'=>e=.returned (.string (clS s))∧Below w.heap.size w w':=by
 obtain⟨h1,h2,h3⟩:=V2 (L s)
 have hkl:(clP (L s)).length≤s.size:=by have:=Zbo (L s);rwa[Zj] at this
 have hv:=ZhR s
 have hp1:∀ j,j<(clP (L s)).length→Jg (s.extract j s.size)=false:=fun j hj=>by rw[V3,decide_eq_false (h3 j hj)]
 have hp2:Jg (s.extract (clP (L s)).length s.size)=true:=by rw[V3,decide_eq_true h2]
 obtain⟨k,hk⟩:∃ k,(clP (L s)).length=k:=⟨_,rfl⟩
 obtain⟨v,hvv⟩:∃ v,clS s=v:=⟨_,rfl⟩
 rw[hk] at hv hp1 hp2 hkl
 rw[hvv] at hv ⊢
 clear h1 h2 h3 hk hvv
 have hz:∀ j,j≤s.size→(s.extract j s.size).size=s.size - j:=fun j hj=>by rw[ByteArray.size_extract];omega
 have hz0:(s.extract 0 k).size=k:=by rw[ByteArray.size_extract];omega
 have hit:=fun j (hj:j≤s.size) w=>ZdZ (s.extract j s.size) (by rw[hz j hj];omega) w
 have htn:=fun w=>JC (s.extract 0 k) (by rw[hz0];omega) w
 have htz:(trn (s.extract 0 k)).size=k:=by rw[trn,Zh,rv,List.length_reverse,Zj,hz0]
 obtain⟨t,ht⟩:∃ t,trn (s.extract 0 k)=t:=⟨_,rfl⟩
 rw[ht] at hv htn htz
 have H1:=Hd hp1;have H2:=Hd hp2;have HIT:=Hd hit;have HTN:=Hd htn;have HV:=Hd hv
 clear hp1 hp2 hit htn hv hz ht hz0
 have n1:¬ 9223372036854775807<s.size+t.size:=by omega
 go_enter Tryz.func178,Tryz.ntmps178
 go_wp2_with fail
 go_loopw [3] (fun i wr=>∃ j:Nat,j≤k∧i=.int .i64 j∧Below w.heap.size w wr) (fun i _=>s.size - (intOf i).toNat)
 case atStart=>exact⟨0,by omega,rfl,Below.refl _ _⟩
 case round =>
  obtain⟨j,hj,rfl,hb⟩:=hrel
  have hj2:(j:Int)≤(s.size:Int):=by omega
  have hc:=fun w=>HIT.o j (by omega) w
  by_cases hjk:j<k
  ·rw[H1.o j hjk] at hc
   have HC:=Hd hc
   clear hc
   go_wp2_with fail
   refine (HC.o _).mono ?_
   rintro e w1 ⟨rfl,b1⟩
   go_wp2_with fail
   go_roundw
   case rel=>exact⟨j+1,by omega,by go_num,hb.trans (b1.mono hb.size)⟩
   case measure=>simp[intOf];omega
  ·obtain rfl:j=k:=by omega
   rw[H2.o] at hc
   have HC:=Hd hc
   clear hc
   go_wp2_with fail
   refine (HC.o _).mono ?_
   rintro e w1 ⟨rfl,b1⟩
   have hb1:=hb.trans (b1.mono hb.size)
   go_wp2_with fail
   refine (HTN.o _).mono ?_
   rintro e w2 ⟨rfl,b2⟩
   go_wp2_with fail
   go_ret
   exact⟨by rw[← HV.o];rfl,hb1.trans (b2.mono hb1.size)⟩
theorem X2 (s:ByteArray) (hs:s.size≤maxLen) (w:World) :
  Calls Tryz.prog 118 #[.string s] w fun e w'=>e=.returned (.string (clV s))∧Below w.heap.size w w':=by
 obtain⟨b,hb⟩:∃ b,isW (L s)=b:=⟨_,rfl⟩
 have HW:=Hd (fun w=>Zl s b hs hb w)
 cases b with
 | false =>
  have HV:Hid (clV s={ data:=#[] }):=Hd (by rw[clV,if_neg (by rw[hb];simp)])
  clear hb
  go_enter Tryz.func118,Tryz.ntmps118
  go_wp2_with (go_at_call 27;with_reducible refine (HW.o _).mono ?_;rintro e w' ⟨rfl,rfl⟩)
  go_ret
  exact⟨by rw[HV.o];rfl,Below.refl _ _⟩
 | true =>
  have h4:=Zb hb
  have hz:=XZ s
  have hcl:=fun w=>Zes s h4 w
  obtain⟨b2,hb2⟩:∃ b2,isW (L (clS s))=b2:=⟨_,rfl⟩
  have hw2:=fun w=>Zl (clS s) b2 (by unfold maxLen;omega) hb2 w
  have hv:clV s=if b2=true then clS s else { data:=#[] }:=by
   have h5:isW (L (clS s))=isW (clL (L s)):=by rw[clS,Zy]
   rw[clV,hb,← h5,hb2];simp
  obtain⟨c,hc⟩:∃ c,clS s=c:=⟨_,rfl⟩
  rw[hc] at hcl hw2 hv
  have HCL:=Hd hcl;have HW2:=Hd hw2;have HV:=Hd hv
  clear hb hcl hb2 hw2 hv hc hz
  cases b2 with
  | false =>
   go_enter Tryz.func118,Tryz.ntmps118
   go_wp2_with (go_at_call 27;with_reducible refine (HW.o _).mono ?_;rintro e w' ⟨rfl,rfl⟩)
   refine (HCL.o _).mono ?_
   rintro e w1 ⟨rfl,b1⟩
   go_wp2_with (go_at_call 27;with_reducible refine (HW2.o _).mono ?_;rintro e w' ⟨rfl,rfl⟩)
   go_ret
   exact⟨by rw[HV.o];rfl,b1⟩
  | true =>
   go_enter Tryz.func118,Tryz.ntmps118
   go_wp2_with (go_at_call 27;with_reducible refine (HW.o _).mono ?_;rintro e w' ⟨rfl,rfl⟩)
   refine (HCL.o _).mono ?_
   rintro e w1 ⟨rfl,b1⟩
   go_wp2_with (go_at_call 27;with_reducible refine (HW2.o _).mono ?_;rintro e w' ⟨rfl,rfl⟩)
   refine (HCL.o _).mono ?_
   rintro e w2 ⟨rfl,b2⟩
   go_wp2_with fail
   go_ret
   exact⟨by rw[HV.o];rfl,b1.trans (b2.mono b1.size)⟩
theorem Wa (s:ByteArray) (hs:s.size≤maxLen) (w:World) :
  Calls Tryz.prog 97 #[.string s] w fun e w'=>e=.returned (.string (clV s))∧Below w.heap.size w w':=by
 obtain⟨b,hb⟩:∃ b,isW (L s)=b:=⟨_,rfl⟩
 have HW:=Hd (fun w=>Zi s b hs hb w)
 cases b with
 | false =>
  have HV:Hid (clV s={ data:=#[] }):=Hd (by rw[clV,if_neg (by rw[hb];simp)])
  clear hb
  go_enter Tryz.func97,Tryz.ntmps97
  go_wp2_with (go_at_call 43;with_reducible refine (HW.o _).mono ?_;rintro e w' ⟨rfl,rfl⟩)
  go_ret
  exact⟨by rw[HV.o];rfl,Below.refl _ _⟩
 | true =>
  have h4:=Zb hb
  have hz:=XZ s
  have hcl:=fun w=>Zbn s h4 w
  obtain⟨b2,hb2⟩:∃ b2,isW (L (clS s))=b2:=⟨_,rfl⟩
  have hw2:=fun w=>Zi (clS s) b2 (by unfold maxLen;omega) hb2 w
  have hv:clV s=if b2=true then clS s else { data:=#[] }:=by
   have h5:isW (L (clS s))=isW (clL (L s)):=by rw[clS,Zy]
   rw[clV,hb,← h5,hb2];simp
  obtain⟨c,hc⟩:∃ c,clS s=c:=⟨_,rfl⟩
  rw[hc] at hcl hw2 hv
  have HCL:=Hd hcl;have HW2:=Hd hw2;have HV:=Hd hv
  clear hb hcl hb2 hw2 hv hc hz
  cases b2 with
  | false =>
   go_enter Tryz.func97,Tryz.ntmps97
   go_wp2_with (go_at_call 43;with_reducible refine (HW.o _).mono ?_;rintro e w' ⟨rfl,rfl⟩)
   refine (HCL.o _).mono ?_
   rintro e w1 ⟨rfl,b1⟩
   go_wp2_with (go_at_call 43;with_reducible refine (HW2.o _).mono ?_;rintro e w' ⟨rfl,rfl⟩)
   go_ret
   exact⟨by rw[HV.o];rfl,b1⟩
  | true =>
   go_enter Tryz.func97,Tryz.ntmps97
   go_wp2_with (go_at_call 43;with_reducible refine (HW.o _).mono ?_;rintro e w' ⟨rfl,rfl⟩)
   refine (HCL.o _).mono ?_
   rintro e w1 ⟨rfl,b1⟩
   go_wp2_with (go_at_call 43;with_reducible refine (HW2.o _).mono ?_;rintro e w' ⟨rfl,rfl⟩)
   refine (HCL.o _).mono ?_
   rintro e w2 ⟨rfl,b2⟩
   go_wp2_with fail
   go_ret
   exact⟨by rw[HV.o];rfl,b1.trans (b2.mono b1.size)⟩
section
variable {P:Program} {w:World} {B B2 g c:Nat} {E:TypeId} {l:List UInt8}
theorem XV (t ty:TypeId) (i:TypeInfo) (ht:P.underlying t=some (.slice E)) (hi:P.info? E=some i) (hz:i.zero=some (.int .u8 0)) (hsize:i.size=1) (hby:i.bytes=1)
  (h:BR w B E g c l) (y:List UInt8) (ad:Addr) (k c2:Nat) (hk:y.length=k) (hy:Rds w B2 (some ad) (byV y)) (n:Nat) (hn:l.length=n) (hlim:n+k≤4294967296) (hB:B≤w.heap.size) :
  ∃ g' c' w',(Builtin.append_ #[t,t] ty #[.slice (some ⟨g,0,none⟩) n c,.slice (some ad) k c2]).run P w=.ok (.slice (some ⟨g',0,none⟩) (n+k) c') w'∧BR w' B E g' c' (l++y)∧w.grownBy w' (some g)∧(g'=g∨g'=w.heap.size):=by
 subst hn hk
 have hrd:=h.reads
 obtain⟨h1,h2,h3,cur,fr,hg,hs,htk,hf⟩:=h
 have hsrc:∀ v:World,(∀ p:Addr,v.cell? p=w.cell? p)→(loadCells ad y.length).run P v=.ok (byV y).toArray v:=fun v hv=>by
  have:=run_firstCells_some (P:=P) v 1 y.length ad y.length c2 (byV y) (by rw[Zm,Nat.mul_one]) (fun j u hj=>by
   obtain⟨ad',e1,_,e2⟩:=hy j u hj
   injection e1 with e1
   subst e1
   rw[hv];exact e2)
  simpa[Builtin.firstCells] using this
 by_cases hroom:l.length+y.length≤c
 ·obtain⟨w1,hst,hgr,hg1⟩:=XW P g l.length E fr (byV y) 0 cur w hg (by rw[hs];exact hf) (by rw[Zm];omega) (Zft _)
  simp only[Nat.add_zero,Zm] at hg1
  refine⟨g,c,w1,?_,⟨h1,by rw[List.length_append];exact hroom,h3,_,fr,hg1,?_,ZcK htk,hf⟩,hgr,.inl rfl⟩
  ·have hst2:(storeCells ({ block:=g,off:=l.length }:Addr) (byV y)).run P w=.ok () w1:=hst
   simp[Builtin.append_,run_underlying ht,sizeOf,typeInfo,hi,hsize,Builtin.lenOf,hroom,Builtin.firstCells,Addr.add_lit]
   rw[hsrc w fun _=>rfl]
   simp only[Result.andThen_ok]
   rw[hst2]
   rfl
  ·simp[hs,Zm]
   rw[← hs] at hroom ⊢
   have:=Array.length_toList (xs:=cur)
   omega
 ·have h63:¬ (9223372036854775807<((l.length:Int)+(y.length:Int))):=by omega
  have hb2:Builtin.nextslicecap (l.length+y.length) c * 1≤281474976710656:=growslice_fits (by omega) (by omega)
  have h48:¬ (281474976710656<Builtin.nextslicecap (l.length+y.length) c):=by omega
  have hfo:=run_firstCells_some (P:=P) w.drew 1 l.length ⟨g,0,none⟩ l.length c (byV l) (by rw[Zm,Nat.mul_one]) (fun j v hj=>by
   obtain⟨ad,e1,_,e2⟩:=hrd j v hj
   injection e1 with e1
   subst e1
   exact e2)
  have hge:=grownCap_ge w (l.length+y.length) c E
  have hle:=grownCap_le_maxLen w (l.length+y.length) c E (by unfold maxLen;omega)
  have hfo2:(loadCells ({ block:=g,off:=0 }:Addr) l.length).run P w.drew=.ok (byV l).toArray w.drew:=by simpa[Builtin.firstCells] using hfo
  refine⟨w.heap.size,grownCap w (l.length+y.length) c E,w.drew.alloc (.cells ((byV l).toArray++(byV y).toArray++Builtin.zeroCells #[.int .u8 0] (grownCap w (l.length+y.length) c E - (l.length+y.length))) E),?_,?_,?_,.inr rfl⟩
  ·simp[Builtin.append_,run_underlying ht,sizeOf,typeInfo,zeroValue,hi,hz,hsize,hby,Builtin.lenOf,hroom,h63,h48,Question.forced,Builtin.firstCells,newRow,grownCap,Value.cells]
   rw[hfo2]
   simp only[Result.andThen_ok]
   rw[hsrc w.drew fun _=>rfl]
   simp only[Result.andThen_ok]
   congr 3
   apply Array.ext'
   simp
  ·refine⟨hB,by rw[List.length_append];exact hge,hle,_,(0,0),heap_alloc_new w.drew _,?_,?_,fun j _=>by omega⟩
   ·simp[Builtin.zeroCells,Zm];omega
   ·rw[Array.toList_append,Array.toList_append,List.toList_toArray,List.toList_toArray,← VQ]
    exact List.take_left' (by rw[Zm])
  ·exact Y9 (((Below.refl w.heap.size w).drew).alloc (by simp) _) _
theorem Vb {ops:Array Oper} {o:Oper} {a:Act} {K:Act→World→Prop} {Q:Exit→Act→World→Prop} {R:Prop} (hg:o.guard=none) (s x:Operand) (t:TypeId)
  (ho:o.op=.call { callee:=.builtin .append,args:=#[s,x],argTypes:=#[t,t] })
  (ht:P.underlying t=some (.slice E)) (hinfo:(P.info? E).map (fun i=>(i.zero,i.size,i.bytes))=some (some (.int .u8 0),1,1))
  (n:Nat) (hs:a.eval s=.slice (some ⟨g,0,none⟩) n c) (h:BR w B E g c l) (y:List UInt8) (ad:Addr) (k c2:Nat) (hx:a.eval x=.slice (some ad) k c2) (hy:Rds w B2 (some ad) (byV y)) (hk:y.length=k)
  (hn:l.length=n) (hlim:n+k≤4294967296) (hB:B≤w.heap.size)
  (hK:∀ g' c' w',BR w' B E g' c' (l++y)→Below B w w'→K (a.put o.dst (.slice (some ⟨g',0,none⟩) (n+k) c')) w') :
  if Region.wanted o (yielded ops a.tmps)=true then Oper.wp P o a w K Q else R:=by
 obtain⟨i,hi,hz,hsize,hby⟩:=info_parts hinfo
 have hw:Region.wanted o (yielded ops a.tmps)=true:=by simp[Region.wanted,hg]
 rw[if_pos hw]
 obtain⟨g',c',w',hr,h2,h3,h4⟩:=XV (P:=P) t o.type i ht hi hz hsize hby h y ad k c2 hk hy n hn hlim hB
 unfold Oper.wp execOp
 simp only[ho,resolve,invoke,builtin,Sem.run_bind,Sem.run_pure,Result.andThen_ok,List.map_toArray,List.map_cons,List.map_nil,hs,hx,hr]
 exact hK g' c' w' h2 ((Below.refl B w).grown h3 hB (fun k hk=>by injection hk with hk;have:=h.1;omega))
end
end Go.Proofs.YtocbgldilgemoaaGreatDoor
