/- What FnConsole asks beside the walks: the text of lines joined, many lines passed over, a bench's text. No condition but the bounds. -/
import Derived.Test.YtocbgldilgemoaaGreatDoorRsi
import Derived.Test.YtocbgldilgemoaaGreatDoorLns
namespace Go.Proofs.YtocbgldilgemoaaGreatDoor
open Go.RowKit
set_option linter.unusedVariables false
theorem Zim (a b:List UInt8):Zd (a++b)=Zd a++Zd b:=by
 have h:L (Zd (a++b))=L (Zd a++Zd b):=by
  rw[Zy,show L (Zd a++Zd b)=L (Zd a)++L (Zd b) by simp[L],Zy,Zy]
 rw[← Ql (Zd (a++b)),h,Ql]
theorem Zku {ps:List ByteArray} {k:Nat} {l:ByteArray} (h:ps[k]? = some l):Zd (jnS 10 (ps.take (k+1)))=if k=0 then Zd (jnS 10 (ps.take k))++l else Zd (jnS 10 (ps.take k))++{ data:=#[10] }++l:=by
 have ht:ps.take (k+1)=ps.take k++[l]:=by rw[List.take_add_one,h];rfl
 have hlt:k<ps.length:=(List.getElem?_eq_some_iff.1 h).1
 rw[ht,ZbW]
 by_cases hk:k=0
 ·subst hk
  rw[if_pos (by rfl),if_pos rfl,Ql]
  show l={ data:=#[] }++l
  rw[show ({ data:=#[] }:ByteArray)=ByteArray.empty from rfl,ByteArray.empty_append]
 ·rw[if_neg (by intro e;have:=congrArg List.length e;rw[List.length_take,List.length_nil] at this;omega),if_neg hk,Zim,Zim,Ql]
  rfl
theorem ZbE {zs:List ByteArray} {v l:ByteArray} (hz:Zf zs=true) (hv:isW (L v)=true):RLb zs v l=(RL zs v l,true):=if_pos (by rw[Vf,hz,hv];rfl)
theorem Zkv (l:ByteArray):RLb [] { data:=#[] } l=(([],{ data:=#[] },{ data:=#[] }),false):=if_neg (by decide)
theorem ZfH (zs:List ByteArray) (A:Option Addr) (c B:Nat) (w:World) (hsu:Zf zs=true) (ho:Own w B 9 (.slice A zs.length c) (zs.map Value.string)) :
  Calls Tryz.prog 10 #[.agg #[.slice A zs.length c]] w fun e w'=>e=.returned (.string (fsV zs))∧Below w.heap.size w w':=by
 have hne:zs≠[]:=fun e=>by rw[e] at hsu;exact absurd hsu (by decide)
 obtain⟨g,rfl,q⟩:=ho.strAt hne
 exact JO zs g zs.length c _ w rfl q.1 nlr hsu ho.reads
theorem box_c0 {w:World} {g:Nat} {a b:Value} {t:TypeId} (h:w.heap[g]? = some (.cells #[a,b] t (0,0))):w.cell? ⟨g,0,none⟩=some a:=cell_of_row _ _ 0 _ _ (0,0) h
theorem box_c1 {w:World} {g:Nat} {a b:Value} {t:TypeId} (h:w.heap[g]? = some (.cells #[a,b] t (0,0))):w.cell? ⟨g,1,none⟩=some b:=cell_of_row _ _ 1 _ _ (0,0) h
theorem ZaL {l:ByteArray} (h:0<l.size):(l.extract 0 1).toList=[l[0]]:=by
 rw[ByteArray.toList_eq]
 have h2:(l.extract 0 1).data.toList=L (l.extract 0 1):=rfl
 rw[h2,ZI,List.drop_zero]
 have:=ZS l 0 h
 rw[List.drop_zero] at this
 rw[this];rfl
structure Bx (B:Nat) (w:World) (g:Nat) (zs:List ByteArray) (v:ByteArray) (A:Option Addr) (c:Nat):Prop where
 row:w.heap[g]? = some (.cells #[.slice A zs.length c,.string v] 28 (0,0))
 own:Own w B 9 (.slice A zs.length c) (zs.map Value.string)
theorem Bx.lt {B:Nat} {w:World} {g:Nat} {zs:List ByteArray} {v:ByteArray} {A:Option Addr} {c:Nat} (h:Bx B w g zs v A c):g<w.heap.size:=by
 rcases Nat.lt_or_ge g w.heap.size with h1|h1
 ·exact h1
 ·have:=h.row;rw[Array.getElem?_eq_none h1] at this;cases this
theorem Bx.below {B:Nat} {w w':World} {g:Nat} {zs:List ByteArray} {v:ByteArray} {A:Option Addr} {c:Nat} (h:Bx B w g zs v A c) (b:Below w.heap.size w w'):Bx B w' g zs v A c:=⟨(b.block g h.lt).trans h.row,h.own.below b⟩
theorem Bx.c0 {B:Nat} {w:World} {g:Nat} {zs:List ByteArray} {v:ByteArray} {A:Option Addr} {c:Nat} (h:Bx B w g zs v A c):w.cell? ⟨g,0,none⟩=some (.slice A zs.length c):=box_c0 h.row
theorem Bx.c1 {B:Nat} {w:World} {g:Nat} {zs:List ByteArray} {v:ByteArray} {A:Option Addr} {c:Nat} (h:Bx B w g zs v A c):w.cell? ⟨g,1,none⟩=some (.string v):=box_c1 h.row
theorem Bx.cc {B:Nat} {w:World} {g:Nat} {zs:List ByteArray} {v:ByteArray} {A:Option Addr} {c:Nat} (h:Bx B w g zs v A c):w.cell? ⟨g,0,none⟩=some (.slice A zs.length c)∧w.cell? ⟨g,1,none⟩=some (.string v):=⟨h.c0,h.c1⟩
theorem Bx.made {B:Nat} {w:World} {zs:List ByteArray} {v:ByteArray} {A:Option Addr} {c:Nat} (h:Own w B 9 (.slice A zs.length c) (zs.map Value.string)):Bx B (w.alloc (.cells #[.slice A zs.length c,.string v] 28)) w.heap.size zs v A c:=⟨heap_alloc_new _ _,h.below ((Below.refl _ _).alloc nlr _)⟩
end Go.Proofs.YtocbgldilgemoaaGreatDoor
