/- The words behind the first; a bench in its box. No condition but the bounds. -/
import Derived.Test.YtocbgldilgemoaaGreatDoorCoa
import Derived.Test.YtocbgldilgemoaaGreatDoorFxs
namespace Go.Proofs.YtocbgldilgemoaaGreatDoor
open Go.RowKit
set_option linter.unusedVariables false
theorem StrAt.tail {w:World} {g c:Nat} {x:ByteArray} {l:List ByteArray} (h:StrAt w g c (x :: l)):Rds w w.heap.size (some ⟨g,1,none⟩) (l.map Value.string):=fun k u hu=>by
 rw[List.getElem?_map] at hu
 cases hs:l[k]? with
 | none=>rw[hs] at hu;cases hu
 | some s =>
  rw[hs] at hu
  injection hu with hu
  refine⟨_,rfl,h.2.2.1,?_⟩
  have h2:=h.2.2.2 (k+1) s (by rw[List.getElem?_cons_succ];exact hs)
  rw[← hu,← h2,Nat.add_comm k 1]
  by_cases hk:k=0
  ·subst hk;rfl
  ·simp[Addr.add,hk]
theorem Vs {w:World} {B:Nat} {E t:TypeId} {s:Value} {xs:List Value} {g:Nat} {cs:Array Value} {fr:Nat × Nat} (h:Own w B E s xs) (hg:w.heap[g]? = some (.cells cs t fr)) (hne:t≠E):s.ownBlock≠some g:=by
 rcases h.2 with ⟨rfl,_⟩|⟨g2,cap,cur,rfl,_,hg2,_⟩
 ·simp[Value.ownBlock]
 ·intro he
  simp only[Value.ownBlock,Option.some.injEq] at he
  subst he
  rw[hg] at hg2
  injection hg2 with hg2
  injection hg2 with h1 h2 h3
  exact hne h2
theorem Zed {zs:List ByteArray} {s u:ByteArray} {n:Int} (h:fxV zs s n=some u):u.size≤maxLen:=by
 unfold fxV at h
 split at h
 ·rename_i hok
  simp only[Bool.and_eq_true,decide_eq_true_eq] at hok
  injection h with h
  rw[← h,Zh,List.length_take]
  unfold maxLen;omega
 ·cases h
theorem Zq {x y:ByteArray} {l:List UInt8} (h:¬ x=y) (hl:y.toList=l):(x.toList==l)=false:=hl ▸ Zr h
structure BO (w w':World) (A:Option Addr) (n c:Nat) (v:ByteArray):Prop where
 r0:w'.heap[w.heap.size]? = some (.cells #[.slice A n c,.string v] 28 (0,0))
 bel:Below w.heap.size w w'
 size:w.heap.size+1≤w'.heap.size
section
variable {w w' w'':World} {A:Option Addr} {n c:Nat} {v:ByteArray}
theorem BO.new (w:World) (A:Option Addr) (n c:Nat) (v:ByteArray):BO w (w.alloc (.cells #[.slice A n c,.string v] 28)) A n c v where
 r0:=heap_alloc_new w _
 bel:=(Below.refl _ _).alloc nlr _
 size:=by simp
theorem BO.step (h:BO w w' A n c v) (hb:Below w'.heap.size w' w''):BO w w'' A n c v where
 r0:=(hb.block _ (by have:=h.size;omega)).trans h.r0
 bel:=h.bel.trans (hb.mono (by have:=h.size;omega))
 size:=Nat.le_trans h.size hb.size
theorem BO.dr (h:BO w w' A n c v):BO w w'.drew A n c v:=h.step (Below.refl _ _).drew
theorem BO.c0 (h:BO w w' A n c v):w'.cell? ⟨w.heap.size,0,none⟩=some (.slice A n c):=cell_of_row _ _ 0 _ _ (0,0) h.r0
theorem BO.c1 (h:BO w w' A n c v):w'.cell? ⟨w.heap.size,1,none⟩=some (.string v):=cell_of_row _ _ 1 _ _ (0,0) h.r0
end
end Go.Proofs.YtocbgldilgemoaaGreatDoor
