/- Lines of two words of the program's console. Asks the shelf's text. No condition but the bounds. -/
import Derived.Test.YtocbgldilgemoaaGreatDoorCoa
namespace Go.Proofs.YtocbgldilgemoaaGreatDoor
set_option maxRecDepth 8000
set_option maxHeartbeats 8000000
open Go.RowKit
set_option linter.unusedVariables false
structure BY (w w':World) (A:Option Addr) (n c:Nat) (v:ByteArray):Prop where
 r0:w'.heap[w.heap.size]? = some (.cells #[.slice A n c,.string v] 28 (0,0))
 r1:w'.heap[w.heap.size+1]? = some (.cells #[.slice none 0 0,.string { data:=#[] }] 28 (0,0))
 r2:w'.heap[w.heap.size+2]? = some (.cells #[.slice A n c,.string v] 28 (0,0))
 bel:Below w.heap.size w w'
 size:w.heap.size+3≤w'.heap.size
section
variable {w w' w'':World} {A:Option Addr} {n c:Nat} {v:ByteArray}
theorem BY.new (w:World) (A:Option Addr) (n c:Nat) (v:ByteArray):BY w (((w.alloc (.cells #[.slice A n c,.string v] 28)).alloc (.cells #[.slice none 0 0,.string { data:=#[] }] 28)).alloc (.cells #[.slice A n c,.string v] 28)) A n c v where
 r0:=((((Below.refl (w.heap.size+1) _).alloc (by simp) _).alloc (by first|(simp;done)|(simp;omega)) _).block w.heap.size (by omega)).trans (heap_alloc_new w _)
 r1:=(((Below.refl (w.heap.size+2) _).alloc (by simp) _).block (w.heap.size+1) (by omega)).trans (ZW w _ _)
 r2:=VD w _ _ _
 bel:=VE w _ _ _
 size:=by simp
theorem BY.step (h:BY w w' A n c v) (hb:Below w'.heap.size w' w''):BY w w'' A n c v where
 r0:=(hb.block _ (by have:=h.size;omega)).trans h.r0
 r1:=(hb.block _ (by have:=h.size;omega)).trans h.r1
 r2:=(hb.block _ (by have:=h.size;omega)).trans h.r2
 bel:=h.bel.trans (hb.mono (by have:=h.size;omega))
 size:=Nat.le_trans h.size hb.size
theorem BY.step3 (h:BY w w' A n c v) (hb:Below (w.heap.size+3) w' w''):BY w w'' A n c v where
 r0:=(hb.block _ (by omega)).trans h.r0
 r1:=(hb.block _ (by omega)).trans h.r1
 r2:=(hb.block _ (by omega)).trans h.r2
 bel:=h.bel.trans (hb.mono (by omega))
 size:=Nat.le_trans h.size hb.size
theorem BY.dr (h:BY w w' A n c v):BY w w'.drew A n c v:=h.step (Below.refl _ _).drew
theorem BY.c0 (h:BY w w' A n c v):w'.cell? ⟨w.heap.size,0,none⟩=some (.slice A n c):=cell_of_row _ _ 0 _ _ (0,0) h.r0
theorem BY.c1 (h:BY w w' A n c v):w'.cell? ⟨w.heap.size,1,none⟩=some (.string v):=cell_of_row _ _ 1 _ _ (0,0) h.r0
theorem BY.d0 (h:BY w w' A n c v):w'.cell? ⟨w.heap.size+1,0,none⟩=some (.slice none 0 0):=cell_of_row _ _ 0 _ _ (0,0) h.r1
theorem BY.d1 (h:BY w w' A n c v):w'.cell? ⟨w.heap.size+1,1,none⟩=some (.string { data:=#[] }):=cell_of_row _ _ 1 _ _ (0,0) h.r1
theorem BY.f0 (h:BY w w' A n c v):w'.frozen? ⟨w.heap.size+1,0,none⟩=false:=frozen_of_row _ _ 0 _ _ h.r1
theorem BY.f1 (h:BY w w' A n c v):w'.frozen? ⟨w.heap.size+1,1,none⟩=false:=frozen_of_row _ _ 1 _ _ h.r1
theorem BY.g0 (h:BY w w' A n c v):w'.cell? ⟨w.heap.size+1+1,0,none⟩=some (.slice A n c):=cell_of_row _ _ 0 _ _ (0,0) h.r2
theorem BY.g1 (h:BY w w' A n c v):w'.cell? ⟨w.heap.size+1+1,1,none⟩=some (.string v):=cell_of_row _ _ 1 _ _ (0,0) h.r2
theorem BY.i0 (h:BY w w' A n c v):w'.frozen? ⟨w.heap.size+1+1,0,none⟩=false:=frozen_of_row _ _ 0 _ _ h.r2
theorem BY.i1 (h:BY w w' A n c v):w'.frozen? ⟨w.heap.size+1+1,1,none⟩=false:=frozen_of_row _ _ 1 _ _ h.r2
theorem BY.fs (h:BY w w' A n c v):(w'.cell? ⟨w.heap.size,0,none⟩=some (.slice A n c))∧(w'.cell? ⟨w.heap.size,1,none⟩=some (.string v))∧(w'.cell? ⟨w.heap.size+1,0,none⟩=some (.slice none 0 0))∧(w'.cell? ⟨w.heap.size+1,1,none⟩=some (.string { data:=#[] }))∧(w'.frozen? ⟨w.heap.size+1,0,none⟩=false)∧(w'.frozen? ⟨w.heap.size+1,1,none⟩=false):=⟨h.c0,h.c1,h.d0,h.d1,h.f0,h.f1⟩
theorem BY.fin (h:BY w w' A n c v) (x y:Value):Below w.heap.size w ((w'.setCell ⟨w.heap.size+1,0,none⟩ x).setCell ⟨w.heap.size+1,1,none⟩ y) :=
 (h.bel.setCell (p:=⟨w.heap.size+1,0,none⟩) (by show w.heap.size≤w.heap.size+1;omega) x).setCell (p:=⟨w.heap.size+1,1,none⟩) (by show w.heap.size≤w.heap.size+1;omega) y
theorem BY.row (h:BY w w' A n c v) (x y:Value):((w'.setCell ⟨w.heap.size+1,0,none⟩ x).setCell ⟨w.heap.size+1,1,none⟩ y).heap[w.heap.size+1]? = some (.cells #[x,y] 28 (0,0)):=Zg (k:=1) (Zg (k:=0) h.r1 x) y
theorem BY.fin2 (h:BY w w' A n c v) (x y:Value):Below w.heap.size w ((((w'.setCell ⟨w.heap.size+1+1,0,none⟩ x).setCell ⟨w.heap.size+1+1,1,none⟩ y).setCell ⟨w.heap.size+1,0,none⟩ x).setCell ⟨w.heap.size+1,1,none⟩ y) :=
 (((h.bel.setCell (p:=⟨w.heap.size+1+1,0,none⟩) (by show w.heap.size≤w.heap.size+1+1;omega) x).setCell (p:=⟨w.heap.size+1+1,1,none⟩) (by show w.heap.size≤w.heap.size+1+1;omega) y).setCell (p:=⟨w.heap.size+1,0,none⟩) (by show w.heap.size≤w.heap.size+1;omega) x).setCell (p:=⟨w.heap.size+1,1,none⟩) (by show w.heap.size≤w.heap.size+1;omega) y
theorem BY.row2 (h:BY w w' A n c v) (x y:Value):((((w'.setCell ⟨w.heap.size+1+1,0,none⟩ x).setCell ⟨w.heap.size+1+1,1,none⟩ y).setCell ⟨w.heap.size+1,0,none⟩ x).setCell ⟨w.heap.size+1,1,none⟩ y).heap[w.heap.size+1]? = some (.cells #[x,y] 28 (0,0)):=by
 have h1:(((w'.setCell ⟨w.heap.size+1+1,0,none⟩ x).setCell ⟨w.heap.size+1+1,1,none⟩ y)).heap[w.heap.size+1]? = some (.cells #[.slice none 0 0,.string { data:=#[] }] 28 (0,0)):=Q9 (Q9 h.r1 (by omega) x) (by omega) y
 exact Zg (k:=1) (Zg (k:=0) h1 x) y
theorem Jc {B:Nat} {E:TypeId} {s:Value} {xs:List Value} {g:Nat} (h:Own w B E s xs) (hg:(g+2<B)∨(w.heap[g+2]? ≠ none∧w.heap[g+1]? ≠ none∧s.ownBlock≠some (g+2)∧s.ownBlock≠some (g+1))) (x y x2 y2:Value):Own ((((w.setCell ⟨g+1+1,0,none⟩ x).setCell ⟨g+1+1,1,none⟩ y).setCell ⟨g+1,0,none⟩ x2).setCell ⟨g+1,1,none⟩ y2) B E s xs:=by
 refine (h.far2 (g:=g+1+1) ?_ x y).far2 (g:=g+1) ?_ x2 y2
 ·rcases hg with h2|h2
  ·exact .inl h2
  ·exact .inr ⟨h2.1,h2.2.2.1⟩
 ·rcases hg with h2|h2
  ·exact .inl (by omega)
  ·refine .inr ⟨?_,h2.2.2.2⟩
   rw[heap_setCell_other _ _ _ _ (by simp),heap_setCell_other _ _ _ _ (by simp)]
   exact h2.2.1
end
def BnW (B:Nat) (w:World) (o:Option Rz) (e:Ending) (w':World):Prop :=
 ∃ r A n c,e=.returned (.tuple #[.agg #[.slice A n c,.string r.2.1],.string r.2.2,.bool o.isSome])∧Below w.heap.size w w'∧∀ q,o=some q→r=q∧n=r.1.length∧Own w' B 9 (.slice A r.1.length c) (r.1.map Value.string)
theorem V6 {fn:Func} {p u u2:Tmp} {ty:TypeId} (h:fn.results=#[.cell p ty,.tmp u,.tmp u2]) (tmps:Array Value) (P:Program) (w:World) :
  (results fn tmps).run P w =
   ((asAddr (tmps.getD p undef)).run P w).andThen fun a w₁=>((loadVar ty a).run P w₁).andThen fun v w₂=>.ok (.tuple #[v,tmps.getD u undef,tmps.getD u2 undef]) w₂:=by
 simp only[results,h]
 simp[Sem.run_bind,Result.andThen]
theorem Ze {P:Program} {fn:Func} {p u u2:Tmp} {ty:TypeId} (h:fn.results=#[.cell p ty,.tmp u,.tmp u2]) (tmps:Array Value) (w:World) (g:Nat) (t:TypeId) (cs:Array Value) (fr:Nat × Nat) (d:TypeDesc)
  (hp:tmps.getD p undef=.pointer (some ⟨g,0,none⟩)) (hg:w.heap[g]? = some (.cells cs t fr))
  (hu:P.underlying ty=some d) (hd:(match d with|.struct _|.array _ _=>true|_=>false)=true) (hi:(P.info? ty).map (·.size)=some cs.size) :
  (results fn tmps).run P w=.ok (.tuple #[.agg cs,tmps.getD u undef,tmps.getD u2 undef]) w:=by
 rw[V6 h,hp]
 simp[asAddr,Result.andThen,run_loadVar_row w g t ty cs fr d hg hu hd hi]
theorem Wc (zs:List ByteArray) (v u:ByteArray) (A:Option Addr) (c:Nat) (w:World) :
  Calls Tryz.prog 61 #[.agg #[.slice A zs.length c,.string v],.string u,.bool false] w fun e w'=>e=.returned (.tuple #[.agg #[.slice A zs.length c,.string v],.string ZY])∧Below w.heap.size w w':=by
 go_enter Tryz.func61,Tryz.ntmps61
 go_wp2_with fail
 refine bodyPost_ret (Za rfl _ _ (w.heap.size+1) 28 _ (0,0) _ rfl (ZW w _ _) Tryz.underlying28 rfl (by kernel_rfl)) rfl ?_
 exact⟨rfl,ZX w _ _⟩
theorem Zeu (zs:List ByteArray) (v x t:ByteArray) (A:Option Addr) (c B:Nat) (w:World) (hsu:Zf zs=true) (hw:isW (L v)=true) (ht:t.size≤1048576) (ho:Own w B 9 (.slice A zs.length c) (zs.map Value.string)) (hB:B≤w.heap.size) (htb:TB w) (hml:MlS w) :
  Calls Tryz.prog 59 #[.agg #[.slice A zs.length c,.string v],.string x,.string t] w fun e w'=>BnW B w (rl2 zs v x t) e w':=by
 have hB2:=ho.lt
 have X0:=BY.new w A zs.length c v
 have hx4:=Zb hw
 obtain⟨w2,hw2⟩:∃ w2,((w.alloc (.cells #[.slice A zs.length c,.string v] 28)).alloc (.cells #[.slice none 0 0,.string { data:=#[] }] 28)).alloc (.cells #[.slice A zs.length c,.string v] 28)=w2:=⟨_,rfl⟩
 rw[hw2] at X0
 have X1:=X0.dr
 obtain⟨c0,c1,d0,d1,f0,f1⟩:=X0.fs;have g0:=X0.g0;have g1:=X0.g1;have i0:=X0.i0;have i1:=X0.i1
 have hoX:=fun w' (X:BY w w' A zs.length c v)=>ho.below X.bel
 have hne:=ZF ho (g:=w.heap.size+1) (by omega)
 have hne2:=ZF ho (g:=w.heap.size+2) (by omega)
 have HOX:=Hd hoX;have HNE:=Hd hne;have HNE2:=Hd hne2;have HTB:=Hd (fun w' (X:BY w w' A zs.length c v)=>htb.below X.bel)
 have HML:=Hd (fun w' (X:BY w w' A zs.length c v)=>hml.below X.bel)
 have HX0:=Hd X0;have HX1:=Hd X1
 have HRD:=Hd (fun w' (X:BY w w' A zs.length c v)=>(hoX w' X).reads)
 have HOW:=Hd ho
 have HWO:=Hd (fun w' (X:BY w w' A zs.length c v)=>(⟨by rw[X.r2];simp,by rw[X.r1];simp,hne2,hne⟩:w'.heap[w.heap.size+2]? ≠ none∧w'.heap[w.heap.size+1]? ≠ none∧_∧_))
 clear X0 hoX hne hne2 ho htb hml
 by_cases h0:x=({ data:=#[115,117,98,115,116] }:ByteArray)
 ·have e0:(x.toList==[115,117,98,115,116])=true:=by rw[h0,ByteArray.toList_eq];rfl
  as_aux_lemma =>
   have hv:rl2 zs v x t=some (Jl zs v (suT t)):=by rw[rl2,if_pos h0]
   have hcl:=Xi t ht w2.drew (HML.o _ HX1.o)
   cases hs:suT t with
   | none =>
    rw[hs] at hv hcl
    simp only[Option.getD_none,Option.isSome_none,List.length_nil,List.map_nil] at hcl
    have hwn:=fun A2 w' c2=>J9 zs v A A2 c 0 c2 w'
    have HCL:=Hd hcl;have HV:=Hd hv;have HWN:=Hd hwn
    clear hcl hv hwn hs hsu hw h0 ht
    go_enter Tryz.func59,Tryz.ntmps59
    go_wp2_with fail
    clear hw2
    go_region_with (first|(go_at_call 121;refine HCL.o.mono ?_;rintro e w4 ⟨A4,c4,rfl,o4,b4⟩;have X4:=HX1.o.step b4;obtain⟨c0,c1,d0,d1,f0,f1⟩:=X4.fs;have g0:=X4.g0;have g1:=X4.g1;have i0:=X4.i0;have i1:=X4.i1;clear o4)|(go_at_call 113;refine (HWN.o A4 w4 c4).mono ?_;rintro e w5 ⟨rfl,b5⟩;have X5:=X4.step b5;obtain⟨c0,c1,d0,d1,f0,f1⟩:=X5.fs;have g0:=X5.g0;have g1:=X5.g1;have i0:=X5.i0;have i1:=X5.i1))
    all_goals
     go_wp2_with fail
     refine bodyPost_ret (Ze rfl _ _ (w.heap.size+1) 28 _ (0,0) _ rfl (X5.row2 _ _) Tryz.underlying28 rfl (by kernel_rfl)) rfl ?_
     have hO:=Jc (g:=w.heap.size) (HOX.o _ X5) (.inr (HWO.o _ X5)) (.slice A zs.length c) (.string v) (.slice A zs.length c) (.string v)
     rw[HV.o]
     exact⟨(zs,v,ZY),A,zs.length,c,rfl,X5.fin2 _ _,fun q hq=>by injection hq with hq;exact⟨hq,rfl,hO⟩⟩
   | some ys =>
    rw[hs] at hv hcl
    have hys:=Y1 hs
    simp only[Option.getD_some,Option.isSome_some] at hcl
    have hwn:=fun A2 c2 B2 w' o t=>JK zs ys v A A2 c c2 B2 w' hys o t
    have HCL:=Hd hcl;have HV:=Hd hv;have HWN:=Hd hwn
    clear hcl hv hwn hs hys hsu hw h0 ht
    go_enter Tryz.func59,Tryz.ntmps59
    go_wp2_with fail
    clear hw2
    go_region_with (first|(go_at_call 121;refine HCL.o.mono ?_;rintro e w4 ⟨A4,c4,rfl,o4,b4⟩;have X4:=HX1.o.step b4;obtain⟨c0,c1,d0,d1,f0,f1⟩:=X4.fs;have g0:=X4.g0;have g1:=X4.g1;have i0:=X4.i0;have i1:=X4.i1;have O4:=Hd o4;clear o4)|(go_at_call 113;refine (HWN.o A4 c4 _ w4 O4.out (HTB.o _ X4)).mono ?_;rintro e w5 ⟨rfl,b5⟩;have X5:=X4.step b5;obtain⟨c0,c1,d0,d1,f0,f1⟩:=X5.fs;have g0:=X5.g0;have g1:=X5.g1;have i0:=X5.i0;have i1:=X5.i1))
    all_goals
     go_wp2_with fail
     refine bodyPost_ret (Ze rfl _ _ (w.heap.size+1) 28 _ (0,0) _ rfl (X5.row2 _ _) Tryz.underlying28 rfl (by kernel_rfl)) rfl ?_
     have hO:=(Jc (g:=w.heap.size) (O4.out.below b5) (.inl (by have:=HX1.o.size;omega)) (.slice A4 (ys).length c4) (.string v) (.slice A4 (ys).length c4) (.string v)).lower (B':=B) (by have:=HX1.o.size;omega)
     rw[HV.o]
     exact⟨(ys,v,slV ys),A4,(ys).length,c4,rfl,X5.fin2 _ _,fun q hq=>by injection hq with hq;exact⟨hq,rfl,hO⟩⟩
 have e0:(x.toList==[115,117,98,115,116])=false:=by have:=Zr h0;rwa[show (({ data:=#[115,117,98,115,116] }:ByteArray)).toList=[115,117,98,115,116] from by rw[ByteArray.toList_eq]] at this
 by_cases h1:x=({ data:=#[97,102,116,101,114] }:ByteArray)
 ·have e1:(x.toList==[97,102,116,101,114])=true:=by rw[h1,ByteArray.toList_eq];rfl
  as_aux_lemma =>
   have hv:rl2 zs v x t=some (Jl zs v ((suT t).bind (cmV zs))):=by rw[rl2,if_neg h0,if_pos h1]
   have hcl:=Xi t ht w2 (HML.o _ HX0.o)
   cases hs:suT t with
   | none =>
    rw[hs] at hv hcl
    simp only[Option.getD_none,Option.isSome_none,List.length_nil,List.map_nil] at hcl
    have hwn:=fun A2 w' c2=>J9 zs v A A2 c 0 c2 w'
    have HCL:=Hd hcl;have HV:=Hd hv;have HWN:=Hd hwn
    clear hcl hv hwn hs hsu hw h0 h1 ht
    go_enter Tryz.func59,Tryz.ntmps59
    go_wp2_with (go_at_call 121;refine HCL.o.mono ?_;rintro e w4 ⟨A4,c4,rfl,o4,b4⟩;clear hw2;have b5:=(Below.refl w4.heap.size w4).alloc nlr (.cells #[.slice A4 0 c4] 26);have X4:=(HX0.o.step b4).step b5;obtain⟨c0,c1,d0,d1,f0,f1⟩:=X4.fs;have g0:=X4.g0;have g1:=X4.g1;have i0:=X4.i0;have i1:=X4.i1;clear o4 b5;obtain⟨w5,hw5⟩:∃ w5,w4.alloc (.cells #[.slice A4 0 c4] 26)=w5:=⟨_,rfl⟩;have k0:=cell_of_row _ _ 0 _ _ (0,0) (heap_alloc_new w4 (.cells #[.slice A4 0 c4] 26));rw[hw5] at c0 c1 d0 d1 f0 f1 g0 g1 i0 i1 X4 k0)
    go_wp2_with (go_at_call 113;refine (HWN.o A4 _ c4).mono ?_;rintro e w6 ⟨rfl,b6⟩;clear hw5;have X6:=X4.step b6;obtain⟨c0,c1,d0,d1,f0,f1⟩:=X6.fs;have g0:=X6.g0;have g1:=X6.g1;have i0:=X6.i0;have i1:=X6.i1)
    all_goals
     go_wp2_with fail
     refine bodyPost_ret (Ze rfl _ _ (w.heap.size+1) 28 _ (0,0) _ rfl (X6.row2 _ _) Tryz.underlying28 rfl (by kernel_rfl)) rfl ?_
     have hO:=Jc (g:=w.heap.size) (HOX.o _ X6) (.inr (HWO.o _ X6)) (.slice A zs.length c) (.string v) (.slice A zs.length c) (.string v)
     rw[HV.o]
     exact⟨(zs,v,ZY),A,zs.length,c,rfl,X6.fin2 _ _,fun q hq=>by injection hq with hq;exact⟨hq,rfl,hO⟩⟩
   | some ys =>
    rw[hs] at hv hcl
    have hys:=Y1 hs
    simp only[Option.getD_some,Option.isSome_some,Option.bind_some] at hcl hv
    have hcm:=fun A2 c2 B2 w' (r1:Rds w' B2 A (zs.map Value.string)) (r2:Rds w' B2 A2 (ys.map Value.string)) (hb:B2≤w'.heap.size)=>ZcC zs ys A A2 c c2 B2 w' hsu hys r1 r2 hb
    cases hm:cmV zs ys with
    | none =>
     rw[hm] at hv hcm
     simp only[Option.getD_none,Option.isSome_none,List.length_nil,List.map_nil] at hcm
     have hwn:=fun A2 w' c2=>J9 zs v A A2 c 0 c2 w'
     have HCL:=Hd hcl;have HV:=Hd hv;have HWN:=Hd hwn;have HCM:=Hd hcm
     clear hcl hv hwn hs hm hcm hys hsu hw h0 h1 ht
     go_enter Tryz.func59,Tryz.ntmps59
     go_wp2_with (go_at_call 121;refine HCL.o.mono ?_;rintro e w4 ⟨A4,c4,rfl,o4,b4⟩;clear hw2;have b5:=(Below.refl w4.heap.size w4).alloc nlr (.cells #[.slice A4 ys.length c4] 26);have X4:=(HX0.o.step b4).step b5;obtain⟨c0,c1,d0,d1,f0,f1⟩:=X4.fs;have g0:=X4.g0;have g1:=X4.g1;have i0:=X4.i0;have i1:=X4.i1;have o5:=o4.below b5;obtain⟨w5,hw5⟩:∃ w5,w4.alloc (.cells #[.slice A4 ys.length c4] 26)=w5:=⟨_,rfl⟩;have k9:=heap_alloc_new w4 (.cells #[.slice A4 ys.length c4] 26);have z5:(w4.alloc (.cells #[.slice A4 ys.length c4] 26)).heap.size=w4.heap.size+1:=(by simp);rw[hw5] at c0 c1 d0 d1 f0 f1 g0 g1 i0 i1 X4 o5 k9 z5;have k0:=cell_of_row _ _ 0 _ _ (0,0) k9;have j0:=frozen_of_row _ _ 0 _ _ k9;have O5:=Hd o5;have K9:=Hd k9;have Z5:=Hd z5;have Z4:Hid (w.heap.size+3≤w4.heap.size):=Hd (HX0.o.step b4).size;clear o4 b5 o5 k9 z5)
     go_wp2_with (go_at_call 122;refine (HCM.o A4 c4 w5.heap.size w5 ((HRD.o _ X4).more (by have:=X4.size;omega)) (O5.out.reads.more (by have:=Z5.out;omega)) nlr).mono ?_;rintro e w6 ⟨A6,c6,rfl,o6,b6⟩;clear hw5;have X6:=X4.step b6;obtain⟨c0,c1,d0,d1,f0,f1⟩:=X6.fs;have g0:=X6.g0;have g1:=X6.g1;have i0:=X6.i0;have i1:=X6.i1;have k1:=(b6.block w4.heap.size (by have:=Z5.out;omega)).trans K9.out;have k0:=cell_of_row _ _ 0 _ _ (0,0) k1;have j0:=frozen_of_row _ _ 0 _ _ k1;have K1:=Hd k1;have O6:=Hd o6;clear k1 o6;have b7:=(Below.refl w4.heap.size w6).setCell (p:=⟨w4.heap.size,0,none⟩) nlr (.slice A6 0 c6);have X7:=X6.step3 (b7.mono Z4.out);have c07:=X7.c0;have c17:=X7.c1;have d07:=X7.d0;have d17:=X7.d1;have f07:=X7.f0;have f17:=X7.f1;have g07:=X7.g0;have g17:=X7.g1;have i07:=X7.i0;have i17:=X7.i1;have k8:=cell_of_row _ _ 0 _ _ (0,0) (Zg (k:=0) K1.out (.slice A6 0 c6));have B7:=Hd b7;clear b7)
     go_wp2_with (go_at_call 113;refine (HWN.o A6 _ c6).mono ?_;rintro e w8 ⟨rfl,b8⟩;have X8:=X7.step b8;obtain⟨c0,c1,d0,d1,f0,f1⟩:=X8.fs;have g0:=X8.g0;have g1:=X8.g1;have i0:=X8.i0;have i1:=X8.i1)
     all_goals
      go_wp2_with fail
      refine bodyPost_ret (Ze rfl _ _ (w.heap.size+1) 28 _ (0,0) _ rfl (X8.row2 _ _) Tryz.underlying28 rfl (by kernel_rfl)) rfl ?_
      have hO:=Jc (g:=w.heap.size) (HOX.o _ X8) (.inr (HWO.o _ X8)) (.slice A zs.length c) (.string v) (.slice A zs.length c) (.string v)
      rw[HV.o]
      exact⟨(zs,v,ZY),A,zs.length,c,rfl,X8.fin2 _ _,fun q hq=>by injection hq with hq;exact⟨hq,rfl,hO⟩⟩
    | some xs =>
     rw[hm] at hv hcm
     have hxs:=Zex hm
     simp only[Option.getD_some,Option.isSome_some] at hcm
     have hwn:=fun A2 c2 B2 w' o t=>JK zs xs v A A2 c c2 B2 w' hxs o t
     have HCL:=Hd hcl;have HV:=Hd hv;have HWN:=Hd hwn;have HCM:=Hd hcm
     clear hcl hv hwn hs hm hcm hys hxs hsu hw h0 h1 ht
     go_enter Tryz.func59,Tryz.ntmps59
     go_wp2_with (go_at_call 121;refine HCL.o.mono ?_;rintro e w4 ⟨A4,c4,rfl,o4,b4⟩;clear hw2;have b5:=(Below.refl w4.heap.size w4).alloc nlr (.cells #[.slice A4 ys.length c4] 26);have X4:=(HX0.o.step b4).step b5;obtain⟨c0,c1,d0,d1,f0,f1⟩:=X4.fs;have g0:=X4.g0;have g1:=X4.g1;have i0:=X4.i0;have i1:=X4.i1;have o5:=o4.below b5;obtain⟨w5,hw5⟩:∃ w5,w4.alloc (.cells #[.slice A4 ys.length c4] 26)=w5:=⟨_,rfl⟩;have k9:=heap_alloc_new w4 (.cells #[.slice A4 ys.length c4] 26);have z5:(w4.alloc (.cells #[.slice A4 ys.length c4] 26)).heap.size=w4.heap.size+1:=(by simp);rw[hw5] at c0 c1 d0 d1 f0 f1 g0 g1 i0 i1 X4 o5 k9 z5;have k0:=cell_of_row _ _ 0 _ _ (0,0) k9;have j0:=frozen_of_row _ _ 0 _ _ k9;have O5:=Hd o5;have K9:=Hd k9;have Z5:=Hd z5;have Z4:Hid (w.heap.size+3≤w4.heap.size):=Hd (HX0.o.step b4).size;clear o4 b5 o5 k9 z5)
     go_wp2_with (go_at_call 122;refine (HCM.o A4 c4 w5.heap.size w5 ((HRD.o _ X4).more (by have:=X4.size;omega)) (O5.out.reads.more (by have:=Z5.out;omega)) nlr).mono ?_;rintro e w6 ⟨A6,c6,rfl,o6,b6⟩;clear hw5;have X6:=X4.step b6;obtain⟨c0,c1,d0,d1,f0,f1⟩:=X6.fs;have g0:=X6.g0;have g1:=X6.g1;have i0:=X6.i0;have i1:=X6.i1;have k1:=(b6.block w4.heap.size (by have:=Z5.out;omega)).trans K9.out;have k0:=cell_of_row _ _ 0 _ _ (0,0) k1;have j0:=frozen_of_row _ _ 0 _ _ k1;have K1:=Hd k1;have O6:=Hd o6;clear k1 o6;have b7:=(Below.refl w4.heap.size w6).setCell (p:=⟨w4.heap.size,0,none⟩) nlr (.slice A6 xs.length c6);have X7:=X6.step3 (b7.mono Z4.out);have c07:=X7.c0;have c17:=X7.c1;have d07:=X7.d0;have d17:=X7.d1;have f07:=X7.f0;have f17:=X7.f1;have g07:=X7.g0;have g17:=X7.g1;have i07:=X7.i0;have i17:=X7.i1;have k8:=cell_of_row _ _ 0 _ _ (0,0) (Zg (k:=0) K1.out (.slice A6 xs.length c6));have B7:=Hd b7;clear b7;have O7:=Hd (O6.out.far_set (g:=w4.heap.size) (k:=0) (by have:=Z5.out;omega) (.slice A6 xs.length c6)))
     go_wp2_with (go_at_call 113;refine (HWN.o A6 c6 _ _ O7.out (HTB.o _ X7)).mono ?_;rintro e w8 ⟨rfl,b8⟩;have X8:=X7.step b8;obtain⟨c0,c1,d0,d1,f0,f1⟩:=X8.fs;have g0:=X8.g0;have g1:=X8.g1;have i0:=X8.i0;have i1:=X8.i1)
     all_goals
      go_wp2_with fail
      refine bodyPost_ret (Ze rfl _ _ (w.heap.size+1) 28 _ (0,0) _ rfl (X8.row2 _ _) Tryz.underlying28 rfl (by kernel_rfl)) rfl ?_
      have hO:=(Jc (g:=w.heap.size) (O7.out.below b8) (.inl (by have:=Z4.out;have:=Z5.out;omega)) (.slice A6 (xs).length c6) (.string v) (.slice A6 (xs).length c6) (.string v)).lower (B':=B) (by have:=Z4.out;have:=Z5.out;omega)
      rw[HV.o]
      exact⟨(xs,v,slV xs),A6,(xs).length,c6,rfl,X8.fin2 _ _,fun q hq=>by injection hq with hq;exact⟨hq,rfl,hO⟩⟩
 have e1:(x.toList==[97,102,116,101,114])=false:=by have:=Zr h1;rwa[show (({ data:=#[97,102,116,101,114] }:ByteArray)).toList=[97,102,116,101,114] from by rw[ByteArray.toList_eq]] at this
 by_cases h2:x=({ data:=#[119,111,114,100] }:ByteArray)
 ·have e2:(x.toList==[119,111,114,100])=true:=by rw[h2,ByteArray.toList_eq];rfl
  as_aux_lemma =>
   have hv:rl2 zs v x t=some (ZG zs v (some t)):=by rw[rl2,if_neg h0,if_neg h1,if_pos h2]
   have hww:=fun w'=>ZN zs v (some t) A c w' (fun u h=>by injection h with h;rw[← h];unfold maxLen;omega)
   have hr1:=QI zs v (some t)
   obtain⟨r,hr⟩:∃ r,ZG zs v (some t)=r:=⟨_,rfl⟩
   rw[hr] at hv hr1
   simp only[hr,Option.getD_some,Option.isSome_some] at hww
   have HV:=Hd hv;have HWW:=Hd hww;have HR1:=Hd hr1
   clear hv hww hr1 hr hsu hw h0 h1 h2 ht
   go_enter Tryz.func59,Tryz.ntmps59
   go_wp2_with (go_at_call 61;refine (HWW.o _).mono ?_;rintro e w5 ⟨rfl,b5⟩;clear hw2;have X5:=HX0.o.step b5;obtain⟨c0,c1,d0,d1,f0,f1⟩:=X5.fs;have g0:=X5.g0;have g1:=X5.g1;have i0:=X5.i0;have i1:=X5.i1)
   all_goals
    go_wp2_with fail
    refine bodyPost_ret (Ze rfl _ _ (w.heap.size+1) 28 _ (0,0) _ rfl (X5.row2 _ _) Tryz.underlying28 rfl (by kernel_rfl)) rfl ?_
    have hO:=Jc (g:=w.heap.size) (HOX.o _ X5) (.inr (HWO.o _ X5)) (.slice A zs.length c) (.string r.2.1) (.slice A zs.length c) (.string r.2.1)
    rw[HV.o]
    exact⟨r,A,zs.length,c,rfl,X5.fin2 _ _,fun q hq=>by injection hq with hq;exact⟨hq,by rw[HR1.o],by rw[HR1.o];exact hO⟩⟩
 have e2:(x.toList==[119,111,114,100])=false:=by have:=Zr h2;rwa[show (({ data:=#[119,111,114,100] }:ByteArray)).toList=[119,111,114,100] from by rw[ByteArray.toList_eq]] at this
 by_cases h3:x=({ data:=#[100,101,114,105,118,101] }:ByteArray)
 ·have e3:(x.toList==[100,101,114,105,118,101])=true:=by rw[h3,ByteArray.toList_eq];rfl
  as_aux_lemma =>
   have hv:rl2 zs v x t=some (ZG zs v (drV v t)):=by rw[rl2,if_neg h0,if_neg h1,if_neg h2,if_pos h3]
   have hcl:=QC v t (by unfold maxLen;omega) (by unfold maxLen;omega) w2.drew
   cases hd:drB v t with
   | true =>
    rw[hd] at hcl
    rw[show drV v t=some (drS v t) from if_pos hd] at hv
    have hww:=fun w'=>ZN zs v (some (drS v t)) A c w' (fun u h=>by injection h with h;rw[← h];exact Nat.le_trans (Vr v t) (by unfold maxLen;omega))
    have hr1:=QI zs v (some (drS v t))
    obtain⟨r,hr⟩:∃ r,ZG zs v (some (drS v t))=r:=⟨_,rfl⟩
    rw[hr] at hv hr1
    simp only[hr,Option.getD_some,Option.isSome_some] at hww
    have HCL:=Hd hcl;have HV:=Hd hv;have HWW:=Hd hww;have HR1:=Hd hr1
    clear hcl hv hww hr1 hr hd hsu hw h0 h1 h2 h3 ht
    go_enter Tryz.func59,Tryz.ntmps59
    go_wp2_with fail
    clear hw2
    go_region_with (first|(go_at_call 123;refine HCL.o.mono ?_;rintro e w4 ⟨rfl,b4⟩;have X4:=HX1.o.step b4;obtain⟨c0,c1,d0,d1,f0,f1⟩:=X4.fs;have g0:=X4.g0;have g1:=X4.g1;have i0:=X4.i0;have i1:=X4.i1)|(go_at_call 61;refine (HWW.o _).mono ?_;rintro e w5 ⟨rfl,b5⟩;have X5:=X4.step b5;obtain⟨c0,c1,d0,d1,f0,f1⟩:=X5.fs;have g0:=X5.g0;have g1:=X5.g1;have i0:=X5.i0;have i1:=X5.i1))
    all_goals
     go_wp2_with fail
     refine bodyPost_ret (Ze rfl _ _ (w.heap.size+1) 28 _ (0,0) _ rfl (X5.row2 _ _) Tryz.underlying28 rfl (by kernel_rfl)) rfl ?_
     have hO:=Jc (g:=w.heap.size) (HOX.o _ X5) (.inr (HWO.o _ X5)) (.slice A zs.length c) (.string r.2.1) (.slice A zs.length c) (.string r.2.1)
     rw[HV.o]
     exact⟨r,A,zs.length,c,rfl,X5.fin2 _ _,fun q hq=>by injection hq with hq;exact⟨hq,by rw[HR1.o],by rw[HR1.o];exact hO⟩⟩
   | false =>
    rw[hd] at hcl
    rw[show drV v t=none from if_neg (by rw[hd];decide)] at hv
    have hww:=fun w'=>Wc zs v (drS v t) A c w'
    have HCL:=Hd hcl;have HV:=Hd hv;have HWW:=Hd hww
    clear hcl hv hww hd hsu hw h0 h1 h2 h3 ht
    go_enter Tryz.func59,Tryz.ntmps59
    go_wp2_with fail
    clear hw2
    go_region_with (first|(go_at_call 123;refine HCL.o.mono ?_;rintro e w4 ⟨rfl,b4⟩;have X4:=HX1.o.step b4;obtain⟨c0,c1,d0,d1,f0,f1⟩:=X4.fs;have g0:=X4.g0;have g1:=X4.g1;have i0:=X4.i0;have i1:=X4.i1)|(go_at_call 61;refine (HWW.o _).mono ?_;rintro e w5 ⟨rfl,b5⟩;have X5:=X4.step b5;obtain⟨c0,c1,d0,d1,f0,f1⟩:=X5.fs;have g0:=X5.g0;have g1:=X5.g1;have i0:=X5.i0;have i1:=X5.i1))
    all_goals
     go_wp2_with fail
     refine bodyPost_ret (Ze rfl _ _ (w.heap.size+1) 28 _ (0,0) _ rfl (X5.row2 _ _) Tryz.underlying28 rfl (by kernel_rfl)) rfl ?_
     have hO:=Jc (g:=w.heap.size) (HOX.o _ X5) (.inr (HWO.o _ X5)) (.slice A zs.length c) (.string v) (.slice A zs.length c) (.string v)
     rw[HV.o]
     exact⟨(zs,v,ZY),A,zs.length,c,rfl,X5.fin2 _ _,fun q hq=>by injection hq with hq;exact⟨hq,rfl,hO⟩⟩
 have e3:(x.toList==[100,101,114,105,118,101])=false:=by have:=Zr h3;rwa[show (({ data:=#[100,101,114,105,118,101] }:ByteArray)).toList=[100,101,114,105,118,101] from by rw[ByteArray.toList_eq]] at this
 by_cases h4:x=({ data:=#[114,101,116,117,114,110,115] }:ByteArray)
 ·have e4:(x.toList==[114,101,116,117,114,110,115])=true:=by rw[h4,ByteArray.toList_eq];rfl
  as_aux_lemma =>
   have hv:rl2 zs v x t=some (zs,v,rlS v t):=by rw[rl2,if_neg h0,if_neg h1,if_neg h2,if_neg h3,if_pos h4]
   have hcl:=XD v t (by unfold maxLen;omega) (by unfold maxLen;omega) w2
   have HCL:=Hd hcl;have HV:=Hd hv
   clear hcl hv hsu hw h0 h1 h2 h3 h4 ht
   go_enter Tryz.func59,Tryz.ntmps59
   go_wp2_with (go_at_call 124;refine HCL.o.mono ?_;rintro e w5 ⟨rfl,b5⟩;clear hw2;have X5:=HX0.o.step b5;obtain⟨c0,c1,d0,d1,f0,f1⟩:=X5.fs;have g0:=X5.g0;have g1:=X5.g1;have i0:=X5.i0;have i1:=X5.i1)
   refine bodyPost_ret (Ze rfl _ _ (w.heap.size+1) 28 _ (0,0) _ rfl (X5.row _ _) Tryz.underlying28 rfl (by kernel_rfl)) rfl ?_
   have hO:=(HOX.o _ X5).far2 (.inr ⟨by rw[X5.r1];simp,HNE.o⟩) (.slice A zs.length c) (.string v)
   rw[HV.o]
   exact⟨(zs,v,rlS v t),A,zs.length,c,rfl,X5.fin _ _,fun q hq=>by injection hq with hq;exact⟨hq,rfl,hO⟩⟩
 have e4:(x.toList==[114,101,116,117,114,110,115])=false:=by have:=Zr h4;rwa[show (({ data:=#[114,101,116,117,114,110,115] }:ByteArray)).toList=[114,101,116,117,114,110,115] from by rw[ByteArray.toList_eq]] at this
 have hv:rl2 zs v x t=none:=by rw[rl2,if_neg h0,if_neg h1,if_neg h2,if_neg h3,if_neg h4]
 rw[hv]
 clear hv hsu hw h0 h1 h2 h3 h4
 go_enter Tryz.func59,Tryz.ntmps59
 go_wp2_with fail
 refine bodyPost_ret (Ze rfl _ _ (w.heap.size+1) 28 _ (0,0) _ rfl (HX0.o.row _ _) Tryz.underlying28 rfl (by kernel_rfl)) rfl ?_
 exact⟨(zs,v,{ data:=#[] }),A,zs.length,c,rfl,HX0.o.fin _ _,fun q hq=>by cases hq⟩
end Go.Proofs.YtocbgldilgemoaaGreatDoor
