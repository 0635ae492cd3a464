/- One-word lines of the program's console. Asks the shelf's text. No condition but the bounds. -/
import Derived.Test.YtocbgldilgemoaaGreatDoorSbo
import Derived.Test.YtocbgldilgemoaaGreatDoorTsw
import Derived.Test.YtocbgldilgemoaaGreatDoorPaw
namespace Go.Proofs.YtocbgldilgemoaaGreatDoor
open Go.RowKit
set_option linter.unusedVariables false
structure BX (w w':World) (A:Option Addr) (n c:Nat) (v:ByteArray):Prop where
 r0:w'.heap[w.heap.size]? = some (.cells #[.slice A n c,.string v] 28 (0,0))
 r1:w'.heap[w.heap.size+1]? = some (.cells #[.slice none 0 0,.string { data:=#[] }] 28 (0,0))
 bel:Below w.heap.size w w'
 size:w.heap.size+2≤w'.heap.size
section
variable {w w' w'':World} {A:Option Addr} {n c:Nat} {v:ByteArray}
theorem BX.new (w:World) (A:Option Addr) (n c:Nat) (v:ByteArray):BX w ((w.alloc (.cells #[.slice A n c,.string v] 28)).alloc (.cells #[.slice none 0 0,.string { data:=#[] }] 28)) A n c v where
 r0:=(((Below.refl (w.heap.size+1) _).alloc (by simp) _).block w.heap.size (by omega)).trans (heap_alloc_new w _)
 r1:=ZW w _ _
 bel:=ZX w _ _
 size:=by simp
theorem BX.step (h:BX w w' A n c v) (hb:Below w'.heap.size w' w''):BX w w'' A n c v where
 r0:=(hb.block _ (by have:=h.size;omega)).trans h.r0
 r1:=(hb.block _ (by have:=h.size;omega)).trans h.r1
 bel:=h.bel.trans (hb.mono (by have:=h.size;omega))
 size:=Nat.le_trans h.size hb.size
theorem BX.dr (h:BX w w' A n c v):BX w w'.drew A n c v:=h.step (Below.refl _ _).drew
theorem BX.c0 (h:BX w w' A n c v):w'.cell? ⟨w.heap.size,0,none⟩=some (.slice A n c):=cell_of_row _ _ 0 _ _ (0,0) h.r0
theorem BX.c1 (h:BX w w' A n c v):w'.cell? ⟨w.heap.size,1,none⟩=some (.string v):=cell_of_row _ _ 1 _ _ (0,0) h.r0
theorem BX.d0 (h:BX w w' A n c v):w'.cell? ⟨w.heap.size+1,0,none⟩=some (.slice none 0 0):=cell_of_row _ _ 0 _ _ (0,0) h.r1
theorem BX.d1 (h:BX w w' A n c v):w'.cell? ⟨w.heap.size+1,1,none⟩=some (.string { data:=#[] }):=cell_of_row _ _ 1 _ _ (0,0) h.r1
theorem BX.f0 (h:BX w w' A n c v):w'.frozen? ⟨w.heap.size+1,0,none⟩=false:=frozen_of_row _ _ 0 _ _ h.r1
theorem BX.f1 (h:BX w w' A n c v):w'.frozen? ⟨w.heap.size+1,1,none⟩=false:=frozen_of_row _ _ 1 _ _ h.r1
theorem BX.fs (h:BX w w' A n c v):(w'.cell? ⟨w.heap.size,0,none⟩=some (.slice A n c))∧(w'.cell? ⟨w.heap.size,1,none⟩=some (.string v))∧(w'.cell? ⟨w.heap.size+1,0,none⟩=some (.slice none 0 0))∧(w'.cell? ⟨w.heap.size+1,1,none⟩=some (.string { data:=#[] }))∧(w'.frozen? ⟨w.heap.size+1,0,none⟩=false)∧(w'.frozen? ⟨w.heap.size+1,1,none⟩=false):=⟨h.c0,h.c1,h.d0,h.d1,h.f0,h.f1⟩
theorem BX.fin (h:BX w w' A n c v) (x y:Value):Below w.heap.size w ((w'.setCell ⟨w.heap.size+1,0,none⟩ x).setCell ⟨w.heap.size+1,1,none⟩ y) :=
 (h.bel.setCell (p:=⟨w.heap.size+1,0,none⟩) (by show w.heap.size≤w.heap.size+1;omega) x).setCell (p:=⟨w.heap.size+1,1,none⟩) (by show w.heap.size≤w.heap.size+1;omega) y
theorem BX.row (h:BX w w' A n c v) (x y:Value):((w'.setCell ⟨w.heap.size+1,0,none⟩ x).setCell ⟨w.heap.size+1,1,none⟩ y).heap[w.heap.size+1]? = some (.cells #[x,y] 28 (0,0)):=Zg (k:=1) (Zg (k:=0) h.r1 x) y
theorem Own.far2 {B:Nat} {E:TypeId} {s:Value} {xs:List Value} {g:Nat} (h:Own w B E s xs) (hg:g<B∨(w.heap[g]? ≠ none∧s.ownBlock≠some g)) (x y:Value):Own ((w.setCell ⟨g,0,none⟩ x).setCell ⟨g,1,none⟩ y) B E s xs:=by
 have hne:s.ownBlock≠some g:=by
  rcases hg with h2|h2
  ·intro he
   have:=(World.ownsRow.lt h g he).1
   omega
  ·exact h2.2
 have h1:∀ (v:World) (k:Nat) (u:Value),Own v B E s xs→Own (v.setCell ⟨g,k,none⟩ u) B E s xs:=fun v k u hv=>by
  have hgr:v.grownBy (v.setCell ⟨g,k,none⟩ u) (some g):=⟨rfl,rfl,rfl,by simp,fun i _ hn=>heap_setCell_other v ⟨g,k,none⟩ i u (fun he=>hn (by simp[he]))⟩
  refine World.ownsRow.kept hv hgr ?_
  cases hv2:s.ownBlock with
  | none=>exact .inl rfl
  | some q=>right;intro he;exact hne (by rw[hv2];exact he)
 exact h1 _ _ _ (h1 _ _ _ h)
theorem ZF {w0:World} {B:Nat} {E:TypeId} {s:Value} {xs:List Value} {g:Nat} (h:Own w0 B E s xs) (hg:w0.heap.size≤g):s.ownBlock≠some g:=fun he=>by
 have:=(World.ownsRow.lt h g he).2
 omega
end
theorem V5 {zs:List ByteArray} {s u:ByteArray} {n:Int} (h:itV zs s n=some u):u.size≤maxLen:=by
 have hm:∀ (n:Nat) (l r:List UInt8),l.length≤400→itL zs n l=some r→r.length≤400:=by
  intro n
  induction n with
  | zero=>intro l r h1 h2;rw[itL] at h2;injection h2 with h2;rw[← h2];exact h1
  | succ n ih =>
   intro l r h1 h2
   rw[itL] at h2
   split at h2
   ·exact ih _ _ (by assumption) h2
   ·cases h2
 unfold itV at h
 split at h
 ·rename_i hok
  have h4:=Zb (Zeg hok).2.1
  cases hi:itL zs n.toNat (L s) with
  | none=>rw[hi] at h;cases h
  | some r =>
   rw[hi] at h
   injection h with h
   rw[← h,Zh]
   have:=hm _ _ _ (by rw[Zj];exact h4) hi
   unfold maxLen;omega
 ·cases h
theorem ZcR {zs:List ByteArray} {s u:ByteArray} (h:paV zs s=some u):u.size≤maxLen:=by
 unfold paV at h
 split at h
 ·rename_i hok
  split at h
  ·injection h with h
   rw[Zhe,Bool.and_eq_true] at hok
   have h4:=Zb hok.2
   have:=ZkN zs (L s)
   rw[Zj] at this
   rw[← h,Zh];unfold maxLen;omega
  ·cases h
 ·cases h
theorem ZcS {s:ByteArray} (h:isW (L s)=true):(trW s).size≤maxLen:=by
 have h4:=Zb h
 rw[Zcs h,trn,Zh,VB];unfold maxLen;omega
theorem ZcT {s:ByteArray} (h:isW (L s)=true):(clV s).size≤maxLen:=by
 have h4:=Zb h
 unfold clV
 split
 ·have:=XZ s
  unfold maxLen;omega
 ·decide
def BnR (B:Nat) (w:World) (r:Rz) (e:Ending) (w':World):Prop :=
 ∃ A c,e=.returned (.tuple #[.agg #[.slice A r.1.length c,.string r.2.1],.string r.2.2])∧Own w' B 9 (.slice A r.1.length c) (r.1.map Value.string)∧Below w.heap.size w w'
theorem Zah (zs ys:List ByteArray) (v:ByteArray) (A A2:Option Addr) (c c2 B:Nat) (w:World) (n:Nat) (hn:ys.length=n) (hsu:Zf ys=true) (ho:Own w B 9 (.slice A2 n c2) (ys.map Value.string)) (htb:TB w) :
  Calls Tryz.prog 113 #[.agg #[.slice A zs.length c,.string v],.agg #[.slice A2 n c2],.bool true] w fun e w'=>e=.returned (.tuple #[.agg #[.slice A2 n c2,.string v],.string (slV ys)])∧Below w.heap.size w w':=by
 subst hn
 exact JK zs ys v A A2 c c2 B w hsu ho htb
set_option maxRecDepth 8000 in
set_option maxHeartbeats 8000000 in
theorem Zet (zs:List ByteArray) (v x:ByteArray) (A:Option Addr) (c B:Nat) (w:World) (hsu:Zf zs=true) (hw:isW (L v)=true) (ho:Own w B 9 (.slice A zs.length c) (zs.map Value.string)) (hB:B≤w.heap.size) (htb:TB w) :
  Calls Tryz.prog 58 #[.agg #[.slice A zs.length c,.string v],.string x] w fun e w'=>BnR B w (rl1 zs v x) e w':=by
 have hB2:=ho.lt
 have X0:=BX.new w A zs.length c v
 have hx4:=Zb hw
 obtain⟨hz4,hz⟩:=ZE hsu
 obtain⟨w2,hw2⟩:∃ w2,(w.alloc (.cells #[.slice A zs.length c,.string v] 28)).alloc (.cells #[.slice none 0 0,.string { data:=#[] }] 28)=w2:=⟨_,rfl⟩
 rw[hw2] at X0
 have X1:=X0.dr
 obtain⟨c0,c1,d0,d1,f0,f1⟩:=X0.fs
 have hoX:=fun w' (X:BX w w' A zs.length c v)=>ho.below X.bel
 have hne:=ZF ho (g:=w.heap.size+1) (by omega)
 have HOX:=Hd hoX;have HNE:=Hd hne;have HTB:=Hd (fun w' (X:BX w w' A zs.length c v)=>htb.below X.bel)
 have HX0:=Hd X0;have HX1:=Hd X1
 have HRD:=Hd (fun w' (X:BX w w' A zs.length c v)=>(hoX w' X).reads)
 have HOW:=Hd ho
 clear X0 hoX hne ho htb
 by_cases h0:x=({ data:=#[109,105,114,114,111,114] }:ByteArray)
 ·have e0:(x.toList==[109,105,114,114,111,114])=true:=by rw[h0,ByteArray.toList_eq];rfl
  as_aux_lemma =>
   have hv:rl1 zs v x=Jl zs v (tsV zs):=by rw[rl1,if_pos h0]
   have hts:tsV zs=some (zs.map trn):=if_pos hsu
   rw[hts] at hv
   have hsy:Zf (zs.map trn)=true:=by rw[Zew];exact hsu
   have hcl:=W4 zs A c _ w2.drew hsu (HRD.o _ HX1.o) nlr
   have HCL:=Hd hcl;have HV:=Hd hv;have HSY:=Hd hsy;have HWS:=Hd (fun A2 c2 B2 w' o t=>Zah zs (zs.map trn) v A A2 c c2 B2 w' zs.length (by simp) hsy o t)
   clear hcl hv hsy hts hsu hw h0 hz
   go_enter Tryz.func58,Tryz.ntmps58
   go_wp2_with fail
   clear hw2
   go_region_with (first|(go_at_call 114;refine HCL.o.mono ?_;rintro e w4 ⟨A4,c4,rfl,o4,b4⟩;have X4:=HX1.o.step b4;obtain⟨c0,c1,d0,d1,f0,f1⟩:=X4.fs;have O4:=Hd o4)|(go_at_call 113;refine (HWS.o A4 c4 _ w4 O4.out (HTB.o _ X4)).mono ?_;rintro e w5 ⟨rfl,b5⟩;have X5:=X4.step b5;obtain⟨c0,c1,d0,d1,f0,f1⟩:=X5.fs))
   all_goals
    go_wp2_with fail
    refine bodyPost_ret (Za rfl _ _ (w.heap.size+1) 28 _ (0,0) _ rfl (X5.row _ _) Tryz.underlying28 rfl (by kernel_rfl)) rfl ?_
    have hO:=((O4.out.below b5).far2 (g:=w.heap.size+1) (.inl (by have:=HX1.o.size;omega)) (.slice A4 zs.length c4) (.string v)).lower (B':=B) (by have:=HX1.o.size;omega)
    rw[HV.o]
    have hl:(Jl zs v (some (zs.map trn))).1.length=zs.length:=by simp[Jl]
    exact⟨A4,c4,by rw[hl];rfl,by rw[hl];exact hO,X5.fin _ _⟩
 have e0:(x.toList==[109,105,114,114,111,114])=false:=by have:=Zr h0;rwa[show (({ data:=#[109,105,114,114,111,114] }:ByteArray)).toList=[109,105,114,114,111,114] from by rw[ByteArray.toList_eq]] at this
 by_cases h1:x=({ data:=#[97,112,112,108,121] }:ByteArray)
 ·have e1:(x.toList==[97,112,112,108,121])=true:=by rw[h1,ByteArray.toList_eq];rfl
  as_aux_lemma =>
   have hv:rl1 zs v x=ZG zs v (itV zs v 1):=by rw[rl1,if_neg h0,if_pos h1]
   have hcl:=ZeR zs A c _ v w2.drew hsu hw (HRD.o _ HX1.o) nlr
   have hsz:∀ u,itV zs v 1=some u→u.size≤maxLen:=fun u h=>V5 h
   obtain⟨o,ho⟩:∃ o,itV zs v 1=o:=⟨_,rfl⟩
   rw[ho] at hv hcl hsz
   have hww:=fun w'=>ZN zs v o A c w' hsz
   have hr1:=QI zs v o
   obtain⟨r,hr⟩:∃ r,ZG zs v o=r:=⟨_,rfl⟩
   rw[hr] at hv hr1
   simp only[hr] at hww
   unfold okS at hcl
   have HCL:=Hd hcl;have HV:=Hd hv;have HWW:=Hd hww;have HR1:=Hd hr1
   clear hcl hv hww hr1 hr ho hsz hsu hw h0 h1 hz
   go_enter Tryz.func58,Tryz.ntmps58
   go_wp2_with fail
   clear hw2
   go_region_with (first|(go_at_call 115;refine HCL.o.mono ?_;rintro e w4 ⟨rfl,b4⟩;have X4:=HX1.o.step b4;obtain⟨c0,c1,d0,d1,f0,f1⟩:=X4.fs)|(go_at_call 61;refine (HWW.o _).mono ?_;rintro e w5 ⟨rfl,b5⟩;have X5:=X4.step b5;obtain⟨c0,c1,d0,d1,f0,f1⟩:=X5.fs))
   all_goals
    go_wp2_with fail
    refine bodyPost_ret (Za rfl _ _ (w.heap.size+1) 28 _ (0,0) _ rfl (X5.row _ _) Tryz.underlying28 rfl (by kernel_rfl)) rfl ?_
    have hO:=(HOX.o _ X5).far2 (.inr ⟨by rw[X5.r1];simp,HNE.o⟩) (.slice A zs.length c) (.string r.2.1)
    rw[HV.o]
    exact⟨A,c,by rw[HR1.o];rfl,by rw[HR1.o];exact hO,X5.fin _ _⟩
 have e1:(x.toList==[97,112,112,108,121])=false:=by have:=Zr h1;rwa[show (({ data:=#[97,112,112,108,121] }:ByteArray)).toList=[97,112,112,108,121] from by rw[ByteArray.toList_eq]] at this
 by_cases h2:x=({ data:=#[112,97,114,101,110,116] }:ByteArray)
 ·have e2:(x.toList==[112,97,114,101,110,116])=true:=by rw[h2,ByteArray.toList_eq];rfl
  as_aux_lemma =>
   have hv:rl1 zs v x=ZG zs v (paV zs v):=by rw[rl1,if_neg h0,if_neg h1,if_pos h2]
   have hcl:=ZdR zs A c _ v w2.drew hsu hw (HRD.o _ HX1.o) nlr
   have hsz:∀ u,paV zs v=some u→u.size≤maxLen:=fun u h=>ZcR h
   obtain⟨o,ho⟩:∃ o,paV zs v=o:=⟨_,rfl⟩
   rw[ho] at hv hcl hsz
   have hww:=fun w'=>ZN zs v o A c w' hsz
   have hr1:=QI zs v o
   obtain⟨r,hr⟩:∃ r,ZG zs v o=r:=⟨_,rfl⟩
   rw[hr] at hv hr1
   simp only[hr] at hww
   unfold okS at hcl
   have HCL:=Hd hcl;have HV:=Hd hv;have HWW:=Hd hww;have HR1:=Hd hr1
   clear hcl hv hww hr1 hr ho hsz hsu hw h0 h1 h2 hz
   go_enter Tryz.func58,Tryz.ntmps58
   go_wp2_with fail
   clear hw2
   go_region_with (first|(go_at_call 116;refine HCL.o.mono ?_;rintro e w4 ⟨rfl,b4⟩;have X4:=HX1.o.step b4;obtain⟨c0,c1,d0,d1,f0,f1⟩:=X4.fs)|(go_at_call 61;refine (HWW.o _).mono ?_;rintro e w5 ⟨rfl,b5⟩;have X5:=X4.step b5;obtain⟨c0,c1,d0,d1,f0,f1⟩:=X5.fs))
   all_goals
    go_wp2_with fail
    refine bodyPost_ret (Za rfl _ _ (w.heap.size+1) 28 _ (0,0) _ rfl (X5.row _ _) Tryz.underlying28 rfl (by kernel_rfl)) rfl ?_
    have hO:=(HOX.o _ X5).far2 (.inr ⟨by rw[X5.r1];simp,HNE.o⟩) (.slice A zs.length c) (.string r.2.1)
    rw[HV.o]
    exact⟨A,c,by rw[HR1.o];rfl,by rw[HR1.o];exact hO,X5.fin _ _⟩
 have e2:(x.toList==[112,97,114,101,110,116])=false:=by have:=Zr h2;rwa[show (({ data:=#[112,97,114,101,110,116] }:ByteArray)).toList=[112,97,114,101,110,116] from by rw[ByteArray.toList_eq]] at this
 by_cases h3:x=({ data:=#[116,117,114,110] }:ByteArray)
 ·have e3:(x.toList==[116,117,114,110])=true:=by rw[h3,ByteArray.toList_eq];rfl
  as_aux_lemma =>
   have hv:rl1 zs v x=ZG zs v (some (trW v)):=by rw[rl1,if_neg h0,if_neg h1,if_neg h2,if_pos h3]
   have hcl:=Zfk v hw w2.drew
   have hsz:(trW v).size≤maxLen:=ZcS hw
   obtain⟨o,ho⟩:∃ o,trW v=o:=⟨_,rfl⟩
   rw[ho] at hv hcl hsz
   have hww:=fun w'=>ZN zs v (some o) A c w' (fun u h=>by injection h with h;rw[← h];exact hsz)
   have hr1:=QI zs v (some o)
   obtain⟨r,hr⟩:∃ r,ZG zs v (some o)=r:=⟨_,rfl⟩
   rw[hr] at hv hr1
   simp only[hr,Option.getD_some,Option.isSome_some] at hww
   have HCL:=Hd hcl;have HV:=Hd hv;have HWW:=Hd hww;have HR1:=Hd hr1
   clear hcl hv hww hr1 hr ho hsz hsu hw h0 h1 h2 h3 hz
   go_enter Tryz.func58,Tryz.ntmps58
   go_wp2_with fail
   clear hw2
   go_region_with (first|(go_at_call 117;refine HCL.o.mono ?_;rintro e w4 ⟨rfl,b4⟩;have X4:=HX1.o.step b4;obtain⟨c0,c1,d0,d1,f0,f1⟩:=X4.fs)|(go_at_call 61;refine (HWW.o _).mono ?_;rintro e w5 ⟨rfl,b5⟩;have X5:=X4.step b5;obtain⟨c0,c1,d0,d1,f0,f1⟩:=X5.fs))
   all_goals
    go_wp2_with fail
    refine bodyPost_ret (Za rfl _ _ (w.heap.size+1) 28 _ (0,0) _ rfl (X5.row _ _) Tryz.underlying28 rfl (by kernel_rfl)) rfl ?_
    have hO:=(HOX.o _ X5).far2 (.inr ⟨by rw[X5.r1];simp,HNE.o⟩) (.slice A zs.length c) (.string r.2.1)
    rw[HV.o]
    exact⟨A,c,by rw[HR1.o];rfl,by rw[HR1.o];exact hO,X5.fin _ _⟩
 have e3:(x.toList==[116,117,114,110])=false:=by have:=Zr h3;rwa[show (({ data:=#[116,117,114,110] }:ByteArray)).toList=[116,117,114,110] from by rw[ByteArray.toList_eq]] at this
 by_cases h4:x=({ data:=#[99,108,111,115,101] }:ByteArray)
 ·have e4:(x.toList==[99,108,111,115,101])=true:=by rw[h4,ByteArray.toList_eq];rfl
  as_aux_lemma =>
   have hv:rl1 zs v x=ZG zs v (some (clV v)):=by rw[rl1,if_neg h0,if_neg h1,if_neg h2,if_neg h3,if_pos h4]
   have hcl:=X2 v (by unfold maxLen;omega) w2.drew
   have hsz:(clV v).size≤maxLen:=ZcT hw
   obtain⟨o,ho⟩:∃ o,clV v=o:=⟨_,rfl⟩
   rw[ho] at hv hcl hsz
   have hww:=fun w'=>ZN zs v (some o) A c w' (fun u h=>by injection h with h;rw[← h];exact hsz)
   have hr1:=QI zs v (some o)
   obtain⟨r,hr⟩:∃ r,ZG zs v (some o)=r:=⟨_,rfl⟩
   rw[hr] at hv hr1
   simp only[hr,Option.getD_some,Option.isSome_some] at hww
   have HCL:=Hd hcl;have HV:=Hd hv;have HWW:=Hd hww;have HR1:=Hd hr1
   clear hcl hv hww hr1 hr ho hsz hsu hw h0 h1 h2 h3 h4 hz
   go_enter Tryz.func58,Tryz.ntmps58
   go_wp2_with fail
   clear hw2
   go_region_with (first|(go_at_call 118;refine HCL.o.mono ?_;rintro e w4 ⟨rfl,b4⟩;have X4:=HX1.o.step b4;obtain⟨c0,c1,d0,d1,f0,f1⟩:=X4.fs)|(go_at_call 61;refine (HWW.o _).mono ?_;rintro e w5 ⟨rfl,b5⟩;have X5:=X4.step b5;obtain⟨c0,c1,d0,d1,f0,f1⟩:=X5.fs))
   all_goals
    go_wp2_with fail
    refine bodyPost_ret (Za rfl _ _ (w.heap.size+1) 28 _ (0,0) _ rfl (X5.row _ _) Tryz.underlying28 rfl (by kernel_rfl)) rfl ?_
    have hO:=(HOX.o _ X5).far2 (.inr ⟨by rw[X5.r1];simp,HNE.o⟩) (.slice A zs.length c) (.string r.2.1)
    rw[HV.o]
    exact⟨A,c,by rw[HR1.o];rfl,by rw[HR1.o];exact hO,X5.fin _ _⟩
 have e4:(x.toList==[99,108,111,115,101])=false:=by have:=Zr h4;rwa[show (({ data:=#[99,108,111,115,101] }:ByteArray)).toList=[99,108,111,115,101] from by rw[ByteArray.toList_eq]] at this
 by_cases h5:x=({ data:=#[115,104,111,119] }:ByteArray)
 ·have e5:(x.toList==[115,104,111,119])=true:=by rw[h5,ByteArray.toList_eq];rfl
  as_aux_lemma =>
   have hv:rl1 zs v x=(zs,v,orD v):=by rw[rl1,if_neg h0,if_neg h1,if_neg h2,if_neg h3,if_neg h4,if_pos h5]
   have hcl:=Jd v w2.drew
   obtain⟨o,ho⟩:∃ o,orD v=o:=⟨_,rfl⟩
   rw[ho] at hv hcl
   have HCL:=Hd hcl;have HV:=Hd hv
   clear hcl hv ho hsu hw h0 h1 h2 h3 h4 h5 hz
   go_enter Tryz.func58,Tryz.ntmps58
   go_wp2_with fail
   clear hw2
   go_region_with (go_at_call 30;refine HCL.o.mono ?_;rintro e w4 ⟨rfl,b4⟩;have b4:Below w2.drew.heap.size w2.drew w4:=(by first|exact b4|(rw[← b4];exact Below.refl _ _));have X5:=HX1.o.step b4;obtain⟨c0,c1,d0,d1,f0,f1⟩:=X5.fs)
   all_goals
    go_wp2_with fail
    refine bodyPost_ret (Za rfl _ _ (w.heap.size+1) 28 _ (0,0) _ rfl (X5.row _ _) Tryz.underlying28 rfl (by kernel_rfl)) rfl ?_
    have hO:=(HOX.o _ X5).far2 (.inr ⟨by rw[X5.r1];simp,HNE.o⟩) (.slice A zs.length c) (.string v)
    rw[HV.o]
    exact⟨A,c,rfl,hO,X5.fin _ _⟩
 have e5:(x.toList==[115,104,111,119])=false:=by have:=Zr h5;rwa[show (({ data:=#[115,104,111,119] }:ByteArray)).toList=[115,104,111,119] from by rw[ByteArray.toList_eq]] at this
 by_cases h6:x=({ data:=#[108,105,110,101] }:ByteArray)
 ·have e6:(x.toList==[108,105,110,101])=true:=by rw[h6,ByteArray.toList_eq];rfl
  as_aux_lemma =>
   have hv:rl1 zs v x=(zs,v,wlV v):=by rw[rl1,if_neg h0,if_neg h1,if_neg h2,if_neg h3,if_neg h4,if_neg h5,if_pos h6]
   have hcl:=Zka v (by unfold maxLen;omega) w2.drew (HTB.o _ HX1.o)
   obtain⟨o,ho⟩:∃ o,wlV v=o:=⟨_,rfl⟩
   rw[ho] at hv hcl
   have HCL:=Hd hcl;have HV:=Hd hv
   clear hcl hv ho hsu hw h0 h1 h2 h3 h4 h5 h6 hz
   go_enter Tryz.func58,Tryz.ntmps58
   go_wp2_with fail
   clear hw2
   go_region_with (go_at_call 119;refine HCL.o.mono ?_;rintro e w4 ⟨rfl,b4⟩;have b4:Below w2.drew.heap.size w2.drew w4:=(by first|exact b4|(rw[← b4];exact Below.refl _ _));have X5:=HX1.o.step b4;obtain⟨c0,c1,d0,d1,f0,f1⟩:=X5.fs)
   all_goals
    go_wp2_with fail
    refine bodyPost_ret (Za rfl _ _ (w.heap.size+1) 28 _ (0,0) _ rfl (X5.row _ _) Tryz.underlying28 rfl (by kernel_rfl)) rfl ?_
    have hO:=(HOX.o _ X5).far2 (.inr ⟨by rw[X5.r1];simp,HNE.o⟩) (.slice A zs.length c) (.string v)
    rw[HV.o]
    exact⟨A,c,rfl,hO,X5.fin _ _⟩
 have e6:(x.toList==[108,105,110,101])=false:=by have:=Zr h6;rwa[show (({ data:=#[108,105,110,101] }:ByteArray)).toList=[108,105,110,101] from by rw[ByteArray.toList_eq]] at this
 by_cases h7:x=({ data:=#[115,117,98,115,116] }:ByteArray)
 ·have e7:(x.toList==[115,117,98,115,116])=true:=by rw[h7,ByteArray.toList_eq];rfl
  as_aux_lemma =>
   have hv:rl1 zs v x=(zs,v,slV zs):=by rw[rl1,if_neg h0,if_neg h1,if_neg h2,if_neg h3,if_neg h4,if_neg h5,if_neg h6,if_pos h7]
   have hcl:=Ji (B:=B) zs A zs.length c w2.drew rfl (by omega) (fun y hy=>by have:=(hz y hy).2.1;unfold maxLen;omega) (HOX.o _ HX1.o) (HTB.o _ HX1.o)
   obtain⟨o,ho⟩:∃ o,slV zs=o:=⟨_,rfl⟩
   rw[ho] at hv hcl
   have HCL:=Hd hcl;have HV:=Hd hv
   clear hcl hv ho hsu hw h0 h1 h2 h3 h4 h5 h6 h7 hz
   go_enter Tryz.func58,Tryz.ntmps58
   go_wp2_with fail
   clear hw2
   go_region_with (go_at_call 12;refine HCL.o.mono ?_;rintro e w4 ⟨rfl,b4⟩;have b4:Below w2.drew.heap.size w2.drew w4:=(by first|exact b4|(rw[← b4];exact Below.refl _ _));have X5:=HX1.o.step b4;obtain⟨c0,c1,d0,d1,f0,f1⟩:=X5.fs)
   all_goals
    go_wp2_with fail
    refine bodyPost_ret (Za rfl _ _ (w.heap.size+1) 28 _ (0,0) _ rfl (X5.row _ _) Tryz.underlying28 rfl (by kernel_rfl)) rfl ?_
    have hO:=(HOX.o _ X5).far2 (.inr ⟨by rw[X5.r1];simp,HNE.o⟩) (.slice A zs.length c) (.string v)
    rw[HV.o]
    exact⟨A,c,rfl,hO,X5.fin _ _⟩
 have e7:(x.toList==[115,117,98,115,116])=false:=by have:=Zr h7;rwa[show (({ data:=#[115,117,98,115,116] }:ByteArray)).toList=[115,117,98,115,116] from by rw[ByteArray.toList_eq]] at this
 by_cases h8:x=({ data:=#[112,97,114,116,115] }:ByteArray)
 ·have e8:(x.toList==[112,97,114,116,115])=true:=by rw[h8,ByteArray.toList_eq];rfl
  as_aux_lemma =>
   have hv:rl1 zs v x=(zs,v,JV v):=by rw[rl1,if_neg h0,if_neg h1,if_neg h2,if_neg h3,if_neg h4,if_neg h5,if_neg h6,if_neg h7,if_pos h8]
   have hcl:=ZjC v (by unfold maxLen;omega) w2.drew
   obtain⟨o,ho⟩:∃ o,JV v=o:=⟨_,rfl⟩
   rw[ho] at hv hcl
   have HCL:=Hd hcl;have HV:=Hd hv
   clear hcl hv ho hsu hw h0 h1 h2 h3 h4 h5 h6 h7 h8 hz
   go_enter Tryz.func58,Tryz.ntmps58
   go_wp2_with fail
   clear hw2
   go_region_with (go_at_call 120;refine HCL.o.mono ?_;rintro e w4 ⟨rfl,b4⟩;have b4:Below w2.drew.heap.size w2.drew w4:=(by first|exact b4|(rw[← b4];exact Below.refl _ _));have X5:=HX1.o.step b4;obtain⟨c0,c1,d0,d1,f0,f1⟩:=X5.fs)
   all_goals
    go_wp2_with fail
    refine bodyPost_ret (Za rfl _ _ (w.heap.size+1) 28 _ (0,0) _ rfl (X5.row _ _) Tryz.underlying28 rfl (by kernel_rfl)) rfl ?_
    have hO:=(HOX.o _ X5).far2 (.inr ⟨by rw[X5.r1];simp,HNE.o⟩) (.slice A zs.length c) (.string v)
    rw[HV.o]
    exact⟨A,c,rfl,hO,X5.fin _ _⟩
 have e8:(x.toList==[112,97,114,116,115])=false:=by have:=Zr h8;rwa[show (({ data:=#[112,97,114,116,115] }:ByteArray)).toList=[112,97,114,116,115] from by rw[ByteArray.toList_eq]] at this
 have hv:rl1 zs v x=(zs,v,QJ):=by rw[rl1,if_neg h0,if_neg h1,if_neg h2,if_neg h3,if_neg h4,if_neg h5,if_neg h6,if_neg h7,if_neg h8]
 rw[hv]
 clear hv hsu hw hz h0 h1 h2 h3 h4 h5 h6 h7 h8 hw2 c0 c1 d0 d1 f0 f1 HX0 HX1
 have hO:=HOX.o _ (BX.new w A zs.length c v)
 have hO2:Own ((w.alloc (.cells #[.slice A zs.length c,.string v] 28)).alloc (.cells #[.slice A zs.length c,.string v] 28)) B 9 (.slice A zs.length c) (zs.map Value.string):=HOW.o.below (ZX w _ _)
 have HO2:=Hd hO2
 clear hO hO2
 go_enter Tryz.func58,Tryz.ntmps58
 go_wp2_with fail
 refine bodyPost_ret (Za rfl _ _ (w.heap.size+1) 28 _ (0,0) _ rfl (ZW w _ _) Tryz.underlying28 rfl (by kernel_rfl)) rfl ?_
 exact⟨A,c,rfl,HO2.o,ZX w _ _⟩
end Go.Proofs.YtocbgldilgemoaaGreatDoor
