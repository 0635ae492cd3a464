/- What a line of the reference's session rests on. No condition but the bounds. -/
import Derived.Test.YtocbgldilgemoaaGreatDoorStl
namespace Go.Proofs.YtocbgldilgemoaaGreatDoor
open Go.RowKit
set_option linter.unusedVariables false
theorem XA {P:Program} {W:World} {E:TypeId} (t ty:TypeId) (i:TypeInfo) (ht:P.underlying t=some (.slice E)) (hi:P.info? E=some i) (g:Nat) :
  (Builtin.append_ #[t,t] ty #[.slice (some ⟨g,0,none⟩) 0 0,.slice none 0 0]).run P W=.ok (.slice (some ⟨g,0,none⟩) 0 0) W:=by
 simp[Builtin.append_,run_underlying ht,sizeOf,typeInfo,hi,Builtin.lenOf,Builtin.firstCells,storeCells]
theorem Zhr {P:Program} {W:World} {ops:Array Oper} {o:Oper} {a:Act} {K:Act→World→Prop} {Q:Exit→Act→World→Prop} {R:Prop} {E:TypeId} {news:List Value} {g:Nat} (hg:o.guard=none) (s x:Operand) (t:TypeId)
  (ho:o.op=.call { callee:=.builtin .append,args:=#[s,x],argTypes:=#[t,t] })
  (z:Value) (bytes:Nat) (ht:P.underlying t=some (.slice E)) (hinfo:(P.info? E).map (fun i=>(i.zero,i.size,i.bytes))=some (some z,1,bytes)) (hzs:z.cells.size=1)
  (B:Nat) (hs:a.eval s=.slice (some ⟨g,0,none⟩) 0 0) (hown:Own W B E (.slice (some ⟨g,0,none⟩) 0 0) []) (A:Option Addr) (k c2 B':Nat) (hx:a.eval x=.slice A k c2)
  (hxo:Own W B' E (.slice A k c2) news) (hl:news.length=k) (h1:∀ u∈news,u.oneCell'=true)
  (hn:k<4294967296) (hb16:bytes≤1024) (hB:B≤W.heap.size)
  (h:∀ A' c' w',Own w' B E (.slice A' k c') news→W.grownBy w' (some g)→K (a.put o.dst (.slice A' k c')) w') :
  if Region.wanted o (yielded ops a.tmps)=true then Oper.wp P o a W K Q else R:=by
 cases A with
 | some ad =>
  refine Qh hg s x t ho z bytes ht hinfo hzs B 0 rfl hs hown ad k c2 news hx hl (fun j u hu=>?_) h1 k (by omega) hn hb16 hB ?_
  ·obtain⟨ad',he,hc⟩:=hxo.reads.at_ hu
   injection he with he
   rw[he];exact hc
  ·intro A' c' w' h2 h3 _ _
   exact h A' c' w' h2 h3
 | none =>
  have hk:k=0∧c2=0:=by
   rcases hxo.2 with ⟨h2,_⟩|⟨g2,cap,cur,h2,_⟩
   ·injection h2 with _ h3 h4;exact⟨h3,h4⟩
   ·injection h2 with h3;cases h3
  obtain⟨rfl,rfl⟩:=hk
  have hne:news=[]:=List.eq_nil_of_length_eq_zero hl
  subst hne
  obtain⟨i,hi,hz,hsize,hby⟩:=info_parts hinfo
  have hw:Region.wanted o (yielded ops a.tmps)=true:=by simp[Region.wanted,hg]
  rw[if_pos hw]
  have hr:=XA (P:=P) (W:=W) t o.type i ht hi g
  unfold Oper.wp execOp
  simp only[ho,resolve,invoke,builtin,Sem.run_bind,Sem.run_pure,Result.andThen_ok,List.map_toArray,List.map_cons,List.map_nil,hs,hx,hr]
  exact h _ _ _ hown ⟨rfl,rfl,rfl,Nat.le_refl _,fun _ _ _=>rfl⟩
theorem BX.gr {w w' w'':World} {A:Option Addr} {n c g:Nat} {v:ByteArray} (h:BX w w' A n c v) (hg:w'.grownBy w'' (some g)) (hlt:w.heap.size+2≤g):BX w w'' A n c v where
 r0:=(hg.block _ (by have:=h.size;omega) (fun e=>by injection e with e;omega)).trans h.r0
 r1:=(hg.block _ (by have:=h.size;omega) (fun e=>by injection e with e;omega)).trans h.r1
 bel:=⟨hg.os.trans h.bel.os,hg.tape.trans h.bel.tape,hg.output.trans h.bel.output,Nat.le_trans h.bel.size hg.size,fun k hk=>(hg.block k (by have:=h.size;omega) (fun e=>by injection e with e;omega)).trans (h.bel.block k hk)⟩
 size:=Nat.le_trans h.size hg.size
structure BN (w w':World) (bx:Nat) (A3:Option Addr) (zs:List ByteArray) (c3:Nat) (v:ByteArray):Prop where
 r1:w'.heap[w.heap.size+1]? = some (.cells #[.slice none 0 0,.string { data:=#[] }] 28 (0,0))
 rb:w'.heap[bx]? = some (.cells #[.slice A3 zs.length c3,.string v] 28 (0,0))
 own:Own w' (w.heap.size+2) 9 (.slice A3 zs.length c3) (zs.map Value.string)
 bel:Below w.heap.size w w'
 hbx:w.heap.size+2≤bx
 size:bx<w'.heap.size
section
variable {w w' w'':World} {bx:Nat} {A3:Option Addr} {zs:List ByteArray} {c3:Nat} {v:ByteArray}
theorem BN.step (h:BN w w' bx A3 zs c3 v) (hb:Below w'.heap.size w' w''):BN w w'' bx A3 zs c3 v where
 r1:=(hb.block _ (by have:=h.size;have:=h.hbx;omega)).trans h.r1
 rb:=(hb.block _ h.size).trans h.rb
 own:=h.own.below hb
 bel:=h.bel.trans (hb.mono (by have:=h.size;have:=h.hbx;omega))
 hbx:=h.hbx
 size:=Nat.lt_of_lt_of_le h.size hb.size
theorem BN.dr (h:BN w w' bx A3 zs c3 v):BN w w'.drew bx A3 zs c3 v:=h.step (Below.refl _ _).drew
theorem BN.d0 (h:BN w w' bx A3 zs c3 v):w'.cell? ⟨w.heap.size+1,0,none⟩=some (.slice none 0 0):=cell_of_row _ _ 0 _ _ (0,0) h.r1
theorem BN.d1 (h:BN w w' bx A3 zs c3 v):w'.cell? ⟨w.heap.size+1,1,none⟩=some (.string { data:=#[] }):=cell_of_row _ _ 1 _ _ (0,0) h.r1
theorem BN.f0 (h:BN w w' bx A3 zs c3 v):w'.frozen? ⟨w.heap.size+1,0,none⟩=false:=frozen_of_row _ _ 0 _ _ h.r1
theorem BN.f1 (h:BN w w' bx A3 zs c3 v):w'.frozen? ⟨w.heap.size+1,1,none⟩=false:=frozen_of_row _ _ 1 _ _ h.r1
theorem BN.p0 (h:BN w w' bx A3 zs c3 v):w'.cell? ⟨bx,0,none⟩=some (.slice A3 zs.length c3):=cell_of_row _ _ 0 _ _ (0,0) h.rb
theorem BN.p1 (h:BN w w' bx A3 zs c3 v):w'.cell? ⟨bx,1,none⟩=some (.string v):=cell_of_row _ _ 1 _ _ (0,0) h.rb
theorem BN.fs (h:BN w w' bx A3 zs c3 v):(w'.cell? ⟨w.heap.size+1,0,none⟩=some (.slice none 0 0))∧(w'.cell? ⟨w.heap.size+1,1,none⟩=some (.string { data:=#[] }))∧(w'.frozen? ⟨w.heap.size+1,0,none⟩=false)∧(w'.frozen? ⟨w.heap.size+1,1,none⟩=false)∧(w'.cell? ⟨bx,0,none⟩=some (.slice A3 zs.length c3))∧(w'.cell? ⟨bx,1,none⟩=some (.string v)):=⟨h.d0,h.d1,h.f0,h.f1,h.p0,h.p1⟩
theorem BN.row (h:BN w w' bx A3 zs c3 v) (x y:Value):((w'.setCell ⟨w.heap.size+1,0,none⟩ x).setCell ⟨w.heap.size+1,1,none⟩ y).heap[w.heap.size+1]? = some (.cells #[x,y] 28 (0,0)):=Zg (k:=1) (Zg (k:=0) h.r1 x) y
theorem BN.fin (h:BN w w' bx A3 zs c3 v) (x y:Value):Below w.heap.size w ((w'.setCell ⟨w.heap.size+1,0,none⟩ x).setCell ⟨w.heap.size+1,1,none⟩ y) :=
 (h.bel.setCell (p:=⟨w.heap.size+1,0,none⟩) (by show w.heap.size≤w.heap.size+1;omega) x).setCell (p:=⟨w.heap.size+1,1,none⟩) (by show w.heap.size≤w.heap.size+1;omega) y
theorem BN.keep (h:BN w w' bx A3 zs c3 v) (x y:Value):Own ((w'.setCell ⟨w.heap.size+1,0,none⟩ x).setCell ⟨w.heap.size+1,1,none⟩ y) w.heap.size 9 (.slice A3 zs.length c3) (zs.map Value.string) :=
 (h.own.far2 (g:=w.heap.size+1) (.inl (by omega)) x y).lower (by omega)
end
section
variable {w w5:World} {bx:Nat} {A A5:Option Addr} {zs:List ByteArray} {c cc n:Nat} {v:ByteArray}
theorem BN.ofAlloc (X:BX w w5 A n c v) (o5:Own w5 (w.heap.size+2) 9 (.slice A5 zs.length cc) (zs.map Value.string)):BN w (w5.alloc (.cells #[.slice A5 zs.length cc,.string v] 28)) w5.heap.size A5 zs cc v where
 r1:=(((Below.refl w5.heap.size w5).alloc nlr _).block _ (by have:=X.size;omega)).trans X.r1
 rb:=heap_alloc_new _ _
 own:=o5.below ((Below.refl w5.heap.size w5).alloc nlr _)
 bel:=X.bel.trans (((Below.refl w5.heap.size w5).alloc nlr _).mono (by have:=X.size;omega))
 hbx:=X.size
 size:=by simp
theorem BN.ofSet (X:BX w w5 A n c v) (o5:Own w5 (w.heap.size+2) 9 (.slice A5 zs.length cc) (zs.map Value.string)) (R5:w5.heap[bx]? = some (.cells #[.slice none 0 0,.string { data:=#[] }] 28)) (hb:w.heap.size+2≤bx):BN w ((w5.setCell ⟨bx,0,none⟩ (.slice A5 zs.length cc)).setCell ⟨bx,1,none⟩ (.string v)) bx A5 zs cc v where
 r1:=Q9 (Q9 X.r1 (by omega) _) (by omega) _
 rb:=Zg (k:=1) (Zg (k:=0) R5 _) _
 own:=o5.far2 (g:=bx) (.inr ⟨by rw[R5];simp,Vs o5 R5 (by decide)⟩) _ _
 bel:=(X.bel.setCell (p:=⟨bx,0,none⟩) (by show w.heap.size≤bx;omega) _).setCell (p:=⟨bx,1,none⟩) (by show w.heap.size≤bx;omega) _
 hbx:=hb
 size:=by
  rcases Nat.lt_or_ge bx w5.heap.size with h|h
  ·simpa using h
  ·rw[Array.getElem?_eq_none h] at R5;cases R5
end
end Go.Proofs.YtocbgldilgemoaaGreatDoor
