/- What a line's commands are made of: withWord, withSubst, substOf, numbersIn. Asks the shelf's text. No condition but the bounds. -/
import Derived.Test.YtocbgldilgemoaaGreatDoorM30
namespace Go.Proofs.YtocbgldilgemoaaGreatDoor
set_option maxRecDepth 4000
set_option maxHeartbeats 2000000
open Go.RowKit
set_option linter.unusedVariables false
theorem ZW (w:World) (o1 o2:Obj):((w.alloc o1).alloc o2).heap[w.heap.size+1]? = some o2:=by
 have h:=heap_alloc_new (w.alloc o1) o2
 simpa using h
theorem ZX (w:World) (o1 o2:Obj):Below w.heap.size w ((w.alloc o1).alloc o2):=((Below.refl _ _).alloc nlr _).alloc (by simp) _
theorem VD (w:World) (o1 o2 o3:Obj):(((w.alloc o1).alloc o2).alloc o3).heap[w.heap.size+2]? = some o3:=by
 have h:=heap_alloc_new ((w.alloc o1).alloc o2) o3
 simpa using h
theorem VE (w:World) (o1 o2 o3:Obj):Below w.heap.size w (((w.alloc o1).alloc o2).alloc o3):=(ZX w o1 o2).alloc (by simp;omega) _
theorem J8 {u:ByteArray} (h:u.size=0):u.toList.isEmpty=true:=by
 rw[ByteArray.toList_eq]
 have:u.data.toList=[]:=List.eq_nil_of_length_eq_zero (by rw[Zj];exact h)
 rw[this];rfl
theorem Jw {u:ByteArray} (h:u.size≠0):u.toList.isEmpty=false:=by
 rw[ByteArray.toList_eq]
 cases h2:u.data.toList with
 | nil=>exact absurd (by have:=Zj u;rw[show L u=[] from h2] at this;exact this.symm) h
 | cons a b=>rfl
theorem Zfi {u:ByteArray} (h:u.size=0):u={ data:=#[] }:=by
 apply ZH
 exact List.eq_nil_of_length_eq_zero (by rw[Zj];exact h)
theorem Zfj {v u:ByteArray} (h:J7 v u=true) (hz:u.size=0):v.size=0:=by
 rw[J7,Bool.and_eq_true,decide_eq_true hz,Bool.true_and] at h
 have h2:=h.2
 cases hd:decide (v.size=0) with
 | true=>exact of_decide_eq_true hd
 | false=>rw[hd] at h2;cases h2
theorem ZaH (zs:List ByteArray) (v:ByteArray) (A:Option Addr) (c:Nat) (w:World) :
  Calls Tryz.prog 61 #[.agg #[.slice A zs.length c,.string v],.string { data:=#[] },.bool false] w fun e w'=>e=.returned (.tuple #[.agg #[.slice A zs.length c,.string v],.string ZY])∧Below w.heap.size w w':=by
 go_enter Tryz.func61,Tryz.ntmps61
 go_wp2_with fail
 refine bodyPost_ret (Za rfl _ _ (w.heap.size+1) 28 _ (0,0) _ rfl (ZW w _ _) Tryz.underlying28 rfl (by kernel_rfl)) rfl ?_
 exact⟨rfl,ZX w _ _⟩
theorem Zcr (zs:List ByteArray) (v u:ByteArray) (A:Option Addr) (c:Nat) (w:World) (hu:isW (L u)=true) (h0:J7 v u=true) :
  Calls Tryz.prog 61 #[.agg #[.slice A zs.length c,.string v],.string u,.bool true] w fun e w'=>e=.returned (.tuple #[.agg #[.slice A zs.length c,.string u],.string (orD u)])∧Below w.heap.size w w':=by
 have h4:=Zb hu
 have HW:=Hd (fun w=>Zl u _ (by unfold maxLen;omega) hu w)
 have HO:=Hd (fun w=>Jd u w)
 by_cases hz:u.size=0
 ·have he:=J8 hz
  have hve:=J8 (Zfj h0 hz)
  clear hu h0 hz
  go_enter Tryz.func61,Tryz.ntmps61
  go_wp2_with (go_at_call 27;with_reducible refine (HW.o _).mono ?_;rintro e w1 ⟨rfl,rfl⟩)
  go_region_with (go_at_call 30;with_reducible refine (HO.o _).mono ?_;rintro e w1 ⟨rfl,rfl⟩)
  all_goals
   go_wp2_with fail
   refine bodyPost_ret (Za rfl _ _ (w.heap.size+1) 28 _ (0,0) _ rfl (ZW w _ _) Tryz.underlying28 rfl (by kernel_rfl)) rfl ?_
   exact⟨rfl,(ZX w _ _).drew⟩
 ·have he:=Jw hz
  clear hu h0 hz
  go_enter Tryz.func61,Tryz.ntmps61
  go_wp2_with (go_at_call 27;with_reducible refine (HW.o _).mono ?_;rintro e w1 ⟨rfl,rfl⟩)
  go_region_with (go_at_call 30;with_reducible refine (HO.o _).mono ?_;rintro e w1 ⟨rfl,rfl⟩)
  all_goals
   go_wp2_with fail
   refine bodyPost_ret (Za rfl _ _ (w.heap.size+1) 28 _ (0,0) _ rfl (ZW w _ _) Tryz.underlying28 rfl (by kernel_rfl)) rfl ?_
   exact⟨rfl,(ZX w _ _).drew⟩
theorem Zd2 (zs:List ByteArray) (v u:ByteArray) (A:Option Addr) (c:Nat) (w:World) (hs:u.size≤maxLen) (h0:J7 v u=false) :
  Calls Tryz.prog 61 #[.agg #[.slice A zs.length c,.string v],.string u,.bool true] w fun e w'=>e=.returned (.tuple #[.agg #[.slice A zs.length c,.string v],.string ZY])∧Below w.heap.size w w':=by
 cases hu:isW (L u) with
 | false =>
  have HW:=Hd (fun w=>Zl u _ hs hu w)
  clear hu h0
  go_enter Tryz.func61,Tryz.ntmps61
  go_wp2_with (go_at_call 27;with_reducible refine (HW.o _).mono ?_;rintro e w1 ⟨rfl,rfl⟩)
  refine bodyPost_ret (Za rfl _ _ (w.heap.size+1) 28 _ (0,0) _ rfl (ZW w _ _) Tryz.underlying28 rfl (by kernel_rfl)) rfl ?_
  exact⟨rfl,ZX w _ _⟩
 | true =>
  have HW:=Hd (fun w=>Zl u _ hs hu w)
  have hz:u.size=0:=by
   rw[J7,hu,Bool.true_and] at h0
   rcases Classical.em (u.size=0) with h|h
   ·exact h
   ·rw[decide_eq_false h,Bool.false_and] at h0;cases h0
  have hv:v.size≠0:=fun h=>by rw[J7,hu,decide_eq_true hz,decide_eq_true h] at h0;cases h0
  have he:=J8 hz
  have hve:=Jw hv
  clear hu h0 hz hv
  go_enter Tryz.func61,Tryz.ntmps61
  go_wp2_with (go_at_call 27;with_reducible refine (HW.o _).mono ?_;rintro e w1 ⟨rfl,rfl⟩)
  refine bodyPost_ret (Za rfl _ _ (w.heap.size+1) 28 _ (0,0) _ rfl (ZW w _ _) Tryz.underlying28 rfl (by kernel_rfl)) rfl ?_
  exact⟨rfl,ZX w _ _⟩
theorem ZN (zs:List ByteArray) (v:ByteArray) (o:Option ByteArray) (A:Option Addr) (c:Nat) (w:World) (hs:∀ u,o=some u→u.size≤maxLen) :
  Calls Tryz.prog 61 #[.agg #[.slice A zs.length c,.string v],.string (o.getD { data:=#[] }),.bool o.isSome] w fun e w'=>e=.returned (.tuple #[.agg #[.slice A zs.length c,.string (ZG zs v o).2.1],.string (ZG zs v o).2.2])∧Below w.heap.size w w':=by
 cases o with
 | none=>exact ZaH zs v A c w
 | some u =>
  show Calls Tryz.prog 61 #[.agg #[.slice A zs.length c,.string v],.string u,.bool true] w _
  cases h0:J7 v u with
  | true =>
   have hr:ZG zs v (some u)=(zs,u,orD u):=if_pos h0
   rw[hr]
   have hu:isW (L u)=true:=by rw[J7,Bool.and_eq_true] at h0;exact h0.1
   exact Zcr zs v u A c w hu h0
  | false =>
   have hr:ZG zs v (some u)=(zs,v,ZY):=if_neg (by rw[h0];decide)
   rw[hr]
   exact Zd2 zs v u A c w (hs u rfl) h0
theorem QI (zs:List ByteArray) (v:ByteArray) (o:Option ByteArray):(ZG zs v o).1=zs:=by
 cases o with
 | none=>rfl
 | some u =>
  cases h0:J7 v u with
  | true=>rw[show ZG zs v (some u)=(zs,u,orD u) from if_pos h0]
  | false=>rw[show ZG zs v (some u)=(zs,v,ZY) from if_neg (by rw[h0];decide)]
theorem J9 (zs:List ByteArray) (v:ByteArray) (A A2:Option Addr) (c n2 c2:Nat) (w:World) :
  Calls Tryz.prog 113 #[.agg #[.slice A zs.length c,.string v],.agg #[.slice A2 n2 c2],.bool false] w fun e w'=>e=.returned (.tuple #[.agg #[.slice A zs.length c,.string v],.string ZY])∧Below w.heap.size w w':=by
 go_enter Tryz.func113,Tryz.ntmps113
 go_wp2_with fail
 refine bodyPost_ret (Za rfl _ _ (w.heap.size+2) 28 _ (0,0) _ rfl (VD w _ _ _) Tryz.underlying28 rfl (by kernel_rfl)) rfl ?_
 exact⟨rfl,VE w _ _ _⟩
theorem JK (zs ys:List ByteArray) (v:ByteArray) (A A2:Option Addr) (c c2 B:Nat) (w:World) (hsu:Zf ys=true) (ho:Own w B 9 (.slice A2 ys.length c2) (ys.map Value.string)) (htb:TB w) :
  Calls Tryz.prog 113 #[.agg #[.slice A zs.length c,.string v],.agg #[.slice A2 ys.length c2],.bool true] w fun e w'=>e=.returned (.tuple #[.agg #[.slice A2 ys.length c2,.string v],.string (slV ys)])∧Below w.heap.size w w':=by
 obtain⟨hy4,hyz⟩:=Jr hsu
 obtain⟨w3,hw3⟩:∃ w3,(((w.alloc (.cells #[.slice A2 ys.length c2,.string v] 28)).alloc (.cells #[.slice A2 ys.length c2] 26)).alloc (.cells #[.slice none 0 0,.string { data:=#[] }] 28))=w3:=⟨_,rfl⟩
 have hb3:Below w.heap.size w w3:=by rw[← hw3];exact VE w _ _ _
 have z3:w3.heap.size=w.heap.size+3:=by rw[← hw3];simp
 have r0:w3.heap[w.heap.size]? = some (.cells #[.slice A2 ys.length c2,.string v] 28 (0,0)):=by
  rw[← hw3]
  exact (((Below.refl (w.heap.size+1) _).alloc (by simp) _).alloc (by first|(simp;done)|(simp;omega)) _).block w.heap.size (by omega) |>.trans (heap_alloc_new w _)
 have r1:w3.heap[w.heap.size+1]? = some (.cells #[.slice A2 ys.length c2] 26 (0,0)):=by
  rw[← hw3]
  exact ((Below.refl (w.heap.size+2) _).alloc (by simp) _).block (w.heap.size+1) (by omega) |>.trans (ZW w _ _)
 have r2:w3.heap[w.heap.size+2]? = some (.cells #[.slice none 0 0,.string { data:=#[] }] 28 (0,0)):=by
  rw[← hw3];exact VD w _ _ _
 have hsl:=Ji (B:=B) ys A2 ys.length c2 w3.drew rfl (by omega) (fun s hs=>by have:=hyz s hs;unfold maxLen;omega) (ho.below (hb3.drew)) (htb.below (hb3.drew))
 rw[show w3.drew.heap.size=w.heap.size+3 from z3] at hsl
 have c00:=cell_of_row _ _ 0 _ _ (0,0) r0
 have c01:=cell_of_row _ _ 1 _ _ (0,0) r0
 have c10:=cell_of_row _ _ 0 _ _ (0,0) r1
 have c20:=cell_of_row _ _ 0 _ _ (0,0) r2
 have c21:=cell_of_row _ _ 1 _ _ (0,0) r2
 have f20:=frozen_of_row _ _ 0 _ _ r2
 have f21:=frozen_of_row _ _ 1 _ _ r2
 have HSL:=Hd hsl;have R0:=Hd r0;have R1:=Hd r1;have R2:=Hd r2;have HB3:=Hd hb3
 clear hsl ho htb hyz r0 r1 r2 hb3
 go_enter Tryz.func113,Tryz.ntmps113
 go_wp2_with fail
 clear hw3
 go_region_with (go_at_call 12;refine HSL.o.mono ?_;rintro e w4 ⟨rfl,b4⟩;have q0:=(b4.block w.heap.size (by omega)).trans R0.out;have q2:=(b4.block (w.heap.size+2) (by omega)).trans R2.out;have d00:=cell_of_row _ _ 0 _ _ (0,0) q0;have d01:=cell_of_row _ _ 1 _ _ (0,0) q0;have d20:=cell_of_row _ _ 0 _ _ (0,0) q2;have d21:=cell_of_row _ _ 1 _ _ (0,0) q2;have g20:=frozen_of_row _ _ 0 _ _ q2;have g21:=frozen_of_row _ _ 1 _ _ q2)
 all_goals
  go_wp2_with fail
  have bw4:Below w.heap.size w w4:=(HB3.o.drew).trans (b4.mono (by omega))
  refine bodyPost_ret (Za rfl _ _ (w.heap.size+1+1) 28 _ (0,0) _ rfl (Zg (k:=1) (Zg (k:=0) q2 (.slice A2 ys.length c2)) (.string v)) Tryz.underlying28 rfl (by kernel_rfl)) rfl ?_
  exact⟨rfl,(bw4.setCell (p:=⟨w.heap.size+1+1,0,none⟩) (by show w.heap.size≤w.heap.size+1+1;omega) _).setCell (p:=⟨w.heap.size+1+1,1,none⟩) (by show w.heap.size≤w.heap.size+1+1;omega) _⟩
theorem Za1 {s:ByteArray} (h:(psV (nmT s)).isSome=true):suT s=psV (nmT s):=by rw[suT,if_pos h]
theorem Zd3 {s:ByteArray} (h:(psV (nmT s)).isSome=false):suT s=psV s:=by rw[suT,if_neg (by rw[h];decide)]
theorem Xi (s:ByteArray) (hs:s.size≤1048576) (w:World) (hml:MlS w) :
  Calls Tryz.prog 121 #[.string s] w fun e w'=>∃ A c,e=.returned (.tuple #[.agg #[.slice A ((suT s).getD []).length c],.bool (suT s).isSome])∧Own w' w.heap.size 9 (.slice A ((suT s).getD []).length c) (((suT s).getD []).map Value.string)∧Below w.heap.size w w':=by
 have bA:Below w.heap.size w (w.alloc (.cells #[.slice none 0 0] 26)):=(Below.refl _ _).alloc nlr _
 have zA:(w.alloc (.cells #[.slice none 0 0] 26)).heap.size=w.heap.size+1:=by simp
 have h0:=heap_alloc_new w (.cells #[.slice none 0 0] 26)
 have hn:=WB s (w.alloc (.cells #[.slice none 0 0] 26)) (hml.below bA)
 rw[zA] at hn
 have hp:=fun v (bW:Below w.heap.size w v)=>Vd s hs v (hml.below bW)
 cases hok:(psV (nmT s)).isSome with
 | true =>
  rw[Za1 hok,hok]
  rw[hok] at hn
  have hpl:psL (nmT s)=(psV (nmT s)).getD []:=rfl
  rw[← hpl]
  obtain⟨ys,hys⟩:∃ ys,psL (nmT s)=ys:=⟨_,rfl⟩
  rw[hys] at hn ⊢
  have HN:=Hd hn;have H0:=Hd h0;have BA:=Hd bA
  clear hn hok hpl hys hp h0
  clear hml
  go_enter Tryz.func121,Tryz.ntmps121
  go_wp2_with fail
  refine HN.o.mono ?_
  rintro e w2 ⟨A,c,rfl,o2,b2⟩
  have z2:=b2.size
  have bB:Below w2.heap.size w2 (w2.alloc (.cells #[.slice A ys.length c] 26)):=(Below.refl _ _).alloc nlr _
  have q2:=(bB.block w.heap.size (by omega)).trans ((b2.block w.heap.size (by omega)).trans H0.o)
  have c2:=cell_of_row _ _ 0 _ _ (0,0) q2
  have f2:=frozen_of_row _ _ 0 _ _ q2
  have O2:=Hd (o2.below bB);have B2:=Hd b2;have BB:=Hd bB;have Q2:=Hd q2
  clear o2 b2 bB q2
  go_wp2_with fail
  refine bodyPost_ret (Za rfl _ _ w.heap.size 26 _ (0,0) _ rfl (Zg (k:=0) Q2.out (.slice A ys.length c)) Tryz.underlying26 rfl (by kernel_rfl)) rfl ?_
  exact⟨A,c,rfl,(O2.out.far_set (g:=w.heap.size) (k:=0) (by omega) (.slice A ys.length c)).lower (B:=w.heap.size+1) (B':=w.heap.size) (by omega),(BA.out.trans ((B2.out.mono (by omega)).trans (BB.out.mono (by omega)))).setCell nlr _⟩
 | false =>
  rw[Zd3 hok]
  rw[hok] at hn
  have hpl:psL s=(psV s).getD []:=rfl
  rw[← hpl]
  obtain⟨ys,hys⟩:∃ ys,psL s=ys:=⟨_,rfl⟩
  obtain⟨ok,hok2⟩:∃ ok,(psV s).isSome=ok:=⟨_,rfl⟩
  rw[hok2]
  rw[hys,hok2] at hp
  rw[hys]
  have HN:=Hd hn;have H0:=Hd h0;have BA:=Hd bA;have HP:=Hd hp
  clear hn hok hpl hys hp h0 hok2
  clear hml
  go_enter Tryz.func121,Tryz.ntmps121
  go_wp2_with fail
  refine HN.o.mono ?_
  rintro e w2 ⟨A0,c0,rfl,o2,b2⟩
  have z2:=b2.size
  obtain⟨n0,hn0⟩:∃ n0,(psL (nmT s)).length=n0:=⟨_,rfl⟩
  try rw[hn0]
  have bB:Below w2.heap.size w2 (w2.alloc (.cells #[.slice A0 n0 c0] 26)):=(Below.refl _ _).alloc nlr _
  have zB:(w2.alloc (.cells #[.slice A0 n0 c0] 26)).heap.size=w2.heap.size+1:=by simp
  have q2:=(bB.block w.heap.size (by omega)).trans ((b2.block w.heap.size (by omega)).trans H0.o)
  have hp2:=HP.o _ (BA.out.trans ((b2.mono (by omega)).trans (bB.mono (by omega))))
  rw[zB] at hp2
  have HP2:=Hd hp2;have B2:=Hd b2;have BB:=Hd bB;have Q2:=Hd q2
  clear o2 b2 bB q2 hp2 hn0
  go_wp2_with fail
  refine HP2.o.mono ?_
  rintro e w3 ⟨A,c,rfl,o3,b3⟩
  have q3:=(b3.block w.heap.size (by omega)).trans Q2.out
  have c3:=cell_of_row _ _ 0 _ _ (0,0) q3
  have f3:=frozen_of_row _ _ 0 _ _ q3
  have O3:=Hd o3;have B3:=Hd b3;have Q3:=Hd q3
  clear o3 b3 q3
  go_wp2_with fail
  refine bodyPost_ret (Za rfl _ _ w.heap.size 26 _ (0,0) _ rfl (Zg (k:=0) Q3.out (.slice A ys.length c)) Tryz.underlying26 rfl (by kernel_rfl)) rfl ?_
  exact⟨A,c,rfl,(O3.out.far_set (g:=w.heap.size) (k:=0) (by omega) (.slice A ys.length c)).lower (B:=w2.heap.size+1) (B':=w.heap.size) (by omega),((BA.out.trans ((B2.out.mono (by omega)).trans (BB.out.mono (by omega)))).trans (B3.out.mono (by omega))).setCell nlr _⟩
theorem QU (s:ByteArray) (hs:s.size≤1048576) (w:World)  :
  Calls Tryz.prog 90 #[.string s] w fun e w'=>∃ A c,e=.returned (.tuple #[.agg #[.slice A ((suT s).getD []).length c],.bool (suT s).isSome])∧Own w' w.heap.size 9 (.slice A ((suT s).getD []).length c) (((suT s).getD []).map Value.string)∧Below w.heap.size w w':=by
 have bA:Below w.heap.size w (w.alloc (.cells #[.slice none 0 0] 26)):=(Below.refl _ _).alloc nlr _
 have zA:(w.alloc (.cells #[.slice none 0 0] 26)).heap.size=w.heap.size+1:=by simp
 have h0:=heap_alloc_new w (.cells #[.slice none 0 0] 26)
 have hn:=VU s (w.alloc (.cells #[.slice none 0 0] 26))
 rw[zA] at hn
 have hp:=fun v (bW:Below w.heap.size w v)=>Ve s hs v
 cases hok:(psV (nmT s)).isSome with
 | true =>
  rw[Za1 hok,hok]
  rw[hok] at hn
  have hpl:psL (nmT s)=(psV (nmT s)).getD []:=rfl
  rw[← hpl]
  obtain⟨ys,hys⟩:∃ ys,psL (nmT s)=ys:=⟨_,rfl⟩
  rw[hys] at hn ⊢
  have HN:=Hd hn;have H0:=Hd h0;have BA:=Hd bA
  clear hn hok hpl hys hp h0
  skip
  go_enter Tryz.func90,Tryz.ntmps90
  go_wp2_with fail
  refine HN.o.mono ?_
  rintro e w2 ⟨A,c,rfl,o2,b2⟩
  have z2:=b2.size
  have bB:Below w2.heap.size w2 (w2.alloc (.cells #[.slice A ys.length c] 26)):=(Below.refl _ _).alloc nlr _
  have q2:=(bB.block w.heap.size (by omega)).trans ((b2.block w.heap.size (by omega)).trans H0.o)
  have c2:=cell_of_row _ _ 0 _ _ (0,0) q2
  have f2:=frozen_of_row _ _ 0 _ _ q2
  have O2:=Hd (o2.below bB);have B2:=Hd b2;have BB:=Hd bB;have Q2:=Hd q2
  clear o2 b2 bB q2
  go_wp2_with fail
  refine bodyPost_ret (Za rfl _ _ w.heap.size 26 _ (0,0) _ rfl (Zg (k:=0) Q2.out (.slice A ys.length c)) Tryz.underlying26 rfl (by kernel_rfl)) rfl ?_
  exact⟨A,c,rfl,(O2.out.far_set (g:=w.heap.size) (k:=0) (by omega) (.slice A ys.length c)).lower (B:=w.heap.size+1) (B':=w.heap.size) (by omega),(BA.out.trans ((B2.out.mono (by omega)).trans (BB.out.mono (by omega)))).setCell nlr _⟩
 | false =>
  rw[Zd3 hok]
  rw[hok] at hn
  have hpl:psL s=(psV s).getD []:=rfl
  rw[← hpl]
  obtain⟨ys,hys⟩:∃ ys,psL s=ys:=⟨_,rfl⟩
  obtain⟨ok,hok2⟩:∃ ok,(psV s).isSome=ok:=⟨_,rfl⟩
  rw[hok2]
  rw[hys,hok2] at hp
  rw[hys]
  have HN:=Hd hn;have H0:=Hd h0;have BA:=Hd bA;have HP:=Hd hp
  clear hn hok hpl hys hp h0 hok2
  skip
  go_enter Tryz.func90,Tryz.ntmps90
  go_wp2_with fail
  refine HN.o.mono ?_
  rintro e w2 ⟨A0,c0,rfl,o2,b2⟩
  have z2:=b2.size
  obtain⟨n0,hn0⟩:∃ n0,(psL (nmT s)).length=n0:=⟨_,rfl⟩
  try rw[hn0]
  have bB:Below w2.heap.size w2 (w2.alloc (.cells #[.slice A0 n0 c0] 26)):=(Below.refl _ _).alloc nlr _
  have zB:(w2.alloc (.cells #[.slice A0 n0 c0] 26)).heap.size=w2.heap.size+1:=by simp
  have q2:=(bB.block w.heap.size (by omega)).trans ((b2.block w.heap.size (by omega)).trans H0.o)
  have hp2:=HP.o _ (BA.out.trans ((b2.mono (by omega)).trans (bB.mono (by omega))))
  rw[zB] at hp2
  have HP2:=Hd hp2;have B2:=Hd b2;have BB:=Hd bB;have Q2:=Hd q2
  clear o2 b2 bB q2 hp2 hn0
  go_wp2_with fail
  refine HP2.o.mono ?_
  rintro e w3 ⟨A,c,rfl,o3,b3⟩
  have q3:=(b3.block w.heap.size (by omega)).trans Q2.out
  have c3:=cell_of_row _ _ 0 _ _ (0,0) q3
  have f3:=frozen_of_row _ _ 0 _ _ q3
  have O3:=Hd o3;have B3:=Hd b3;have Q3:=Hd q3
  clear o3 b3 q3
  go_wp2_with fail
  refine bodyPost_ret (Za rfl _ _ w.heap.size 26 _ (0,0) _ rfl (Zg (k:=0) Q3.out (.slice A ys.length c)) Tryz.underlying26 rfl (by kernel_rfl)) rfl ?_
  exact⟨A,c,rfl,(O3.out.far_set (g:=w.heap.size) (k:=0) (by omega) (.slice A ys.length c)).lower (B:=w2.heap.size+1) (B':=w.heap.size) (by omega),((BA.out.trans ((B2.out.mono (by omega)).trans (BB.out.mono (by omega)))).trans (B3.out.mono (by omega))).setCell nlr _⟩
theorem Zd4 {ps:List ByteArray} {k:Nat} {p:ByteArray} (h:ps[k]? = some p):Zt (ps.drop k)=match iP p with|none=>none|some n=>match Zt (ps.drop (k+1)) with|none=>none|some m=>some (n :: m):=by
 rw[ZT h,Zt]
 cases iP p with
 | none=>rfl
 | some n=>cases Zt (ps.drop (k+1))<;>rfl
theorem Qe:∀ {ps:List ByteArray} {l:List Int},Zt ps=some l→∀ z∈l,I64 z
 | [],l,h,z,hz=>by rw[Zt] at h;injection h with h;subst h;cases hz
 | p :: ps,l,h,z,hz=>by
  rw[Zt] at h
  cases hi:iP p with
  | none=>rw[hi] at h;cases h
  | some n =>
   rw[hi] at h
   cases hm:Zt ps with
   | none=>rw[hm] at h;cases h
   | some m =>
    rw[hm] at h
    injection h with h
    subst h
    rcases List.mem_cons.1 hz with h2|h2
    ·rw[h2];exact ((Zcd p n).1 hi).1
    ·exact Qe hm z h2
theorem ZL:∀ {ps:List ByteArray} {l:List Int},Zt ps=some l→l.length=ps.length
 | [],l,h=>by rw[Zt] at h;injection h with h;subst h;rfl
 | p :: ps,l,h=>by
  rw[Zt] at h
  cases hi:iP p with
  | none=>rw[hi] at h;cases h
  | some n =>
   rw[hi] at h
   cases hm:Zt ps with
   | none=>rw[hm] at h;cases h
   | some m =>
    rw[hm] at h
    injection h with h
    subst h
    rw[List.length_cons,List.length_cons,ZL hm]
theorem Qk (ps:List ByteArray) (A0:Option Addr) (c0 B:Nat) (w:World) (hn:ps.length≤1048577) (hps:∀ p∈ps,p.size≤1048576) (hrd:Rds w B A0 (ps.map Value.string)) (hB:B≤w.heap.size) (ht:TB w) (hes:ES w) (heg:EG w) :
  Calls Tryz.prog 63 #[.slice A0 ps.length c0] w fun e w'=>∃ A c,e=.returned (.tuple #[.slice A ((Zt ps).getD []).length c,.bool (Zt ps).isSome])∧Own w' w.heap.size 3 (.slice A ((Zt ps).getD []).length c) (((Zt ps).getD []).map (Value.int .i64))∧Below w.heap.size w w':=by
 have hpi:=fun (p:ByteArray) (hp:p.size≤1048576) w' (h:Below w.heap.size w w')=>JI p (by omega) w' (ht.below h) (hes.below h) (heg.below h)
 obtain⟨n,hnn⟩:∃ n,ps.length=n:=⟨_,rfl⟩
 obtain⟨V,hV⟩:∃ V,Zt ps=V:=⟨_,rfl⟩
 rw[hV]
 rw[hnn] at hn ⊢
 have hV0:(Zt (ps.drop 0)).map ([]++·)=V:=by rw[List.drop_zero,hV];cases V<;>simp
 have HPI:=Hd hpi;have HN:=Hd hnn;have HV0:=Hd hV0;have HRD:=Hd hrd;have HPS:=Hd hps
 have bA:Below w.heap.size w (w.alloc (.cells #[] 3)):=(Below.refl _ _).alloc nlr _
 clear hpi hnn hV hV0 hrd hps
 clear ht hes heg
 go_enter Tryz.func63,Tryz.ntmps63
 go_wp2_with fail
 go_loopw [4,6,7,8,12] (fun v _ _ _ i wr=>∃ (k m c:Nat) (A:Option Addr) (xs:List Int),k≤n∧m≤k∧i=.int .i64 k∧v=.slice A m c∧xs.length=m∧(Zt (ps.drop k)).map (xs++·)=V∧Own wr w.heap.size 3 (.slice A m c) (xs.map (Value.int .i64))∧Below w.heap.size w wr) (fun _ _ _ _ i _=>n - (intOf i).toNat)
 case atStart=>exact⟨0,0,0,_,[],by omega,by omega,rfl,rfl,rfl,HV0.o,Own.empty nlr,bA⟩
 case round =>
  clear HV0 bA
  obtain⟨k,m,c,A,xs,hk,hmk,rfl,rfl,hm,hg,hown,hbel⟩:=hrel
  have HM:=Hd hm;have HG:=Hd hg;have HO:=Hd hown
  clear hm hg hown
  by_cases hlt:k<n
  ·obtain⟨p,hp⟩:=Zc (l:=ps) (k:=k) (by rw[HN.o];exact hlt)
   have hpz:=HPS.o p (List.mem_of_getElem? hp)
   obtain⟨ad,rfl,hc⟩:=(HRD.o.below hbel hB).at_ (Zs Value.string hp)
   have hat:=Zd4 hp
   have hcl:=HPI.o p hpz wr hbel
   have hlt2:(k:Int)<(n:Int):=by omega
   cases hi:iP p with
   | none =>
    rw[hi] at hat hcl
    have hVn:V=none:=by rw[← HG.o,hat];rfl
    have HCL:=Hd hcl;have HVN:=Hd hVn
    clear hat hcl hVn hi hp
    go_wp2_with fail
    refine HCL.o.mono ?_
    rintro e w2 ⟨rfl,b2⟩
    go_wp2_with fail
    go_ret2
    exact⟨none,0,by rw[HVN.o];rfl,by rw[HVN.o];exact Own.nil,hbel.trans (b2.mono hbel.size)⟩
   | some z =>
    rw[hi] at hat hcl
    have hg2:(Zt (ps.drop (k+1))).map ((xs++[z])++·)=V:=by
     rw[← HG.o,hat]
     cases Zt (ps.drop (k+1)) with
     | none=>rfl
     | some r=>simp
    have HCL:=Hd hcl;have HG2:=Hd hg2
    have hlen:(xs.map (Value.int .i64)).length=m:=by rw[List.length_map];exact HM.o
    have HLE:=Hd hlen
    have hm9:m<4294967296:=by omega
    clear hat hcl hg2 hi hp hlen
    go_wp2_with fail
    refine HCL.o.mono ?_
    rintro e w2 ⟨rfl,b2⟩
    have hb2:=hbel.trans (b2.mono hbel.size)
    have HO1:=Hd (HO.o.below b2)
    have hsl:=hb2.size
    clear HO
    go_wp2_with (at_builtin;refine Zp rfl (.tmp 23) (.tmp 25) 83 rfl _ 8 Tryz.underlying83 Zu rfl rfl HO1.o _ rfl rfl m HLE.o hm9 (by decide) hsl ?_)
    intro A2 c2 w3 hown2 hbel2 hsz2
    rw[show xs.map (Value.int .i64)++[Value.int .i64 z]=(xs++[z]).map (Value.int .i64) from by rw[List.map_append];rfl] at hown2
    have HO2:=Hd hown2;clear hown2
    go_wp2_with fail
    go_roundw
    case rel=>exact⟨k+1,m+1,c2,A2,xs++[z],by omega,by omega,by go_num,rfl,by rw[List.length_append,HM.o];rfl,HG2.o,HO2.o,hb2.trans hbel2⟩
    case measure=>simp[intOf];omega
  ·have hkn:k=n:=by omega
   have hd:ps.drop k=[]:=List.drop_eq_nil_of_le (by rw[HN.o];omega)
   have hfin:V=some xs:=by rw[← HG.o,hd,Zt];simp
   have HF:=Hd hfin
   subst hkn
   clear hd hfin
   go_wp2_with fail
   go_ret2
   exact⟨A,c,by rw[HF.o];show _=Ending.returned (.tuple #[.slice A xs.length c,_]);rw[HM.o];rfl,by rw[HF.o];show Own _ _ _ (.slice A xs.length c) _;rw[HM.o];exact HO.o,hbel⟩
theorem Zv (ps:List ByteArray) (A0:Option Addr) (c0 B:Nat) (w:World) (hn:ps.length≤1048577) (hps:∀ p∈ps,p.size≤1048576) (hrd:Rds w B A0 (ps.map Value.string)) (hB:B≤w.heap.size)  :
  Calls Tryz.prog 83 #[.slice A0 ps.length c0] w fun e w'=>∃ A c,e=.returned (.tuple #[.slice A ((Zt ps).getD []).length c,.bool (Zt ps).isSome])∧Own w' w.heap.size 3 (.slice A ((Zt ps).getD []).length c) (((Zt ps).getD []).map (Value.int .i64))∧Below w.heap.size w w':=by
 have hpi:=fun (p:ByteArray) (hp:p.size≤1048576) w' (h:Below w.heap.size w w')=>JJ p (by omega) w'
 obtain⟨n,hnn⟩:∃ n,ps.length=n:=⟨_,rfl⟩
 obtain⟨V,hV⟩:∃ V,Zt ps=V:=⟨_,rfl⟩
 rw[hV]
 rw[hnn] at hn ⊢
 have hV0:(Zt (ps.drop 0)).map ([]++·)=V:=by rw[List.drop_zero,hV];cases V<;>simp
 have HPI:=Hd hpi;have HN:=Hd hnn;have HV0:=Hd hV0;have HRD:=Hd hrd;have HPS:=Hd hps
 have bA:Below w.heap.size w (w.alloc (.cells #[] 3)):=(Below.refl _ _).alloc nlr _
 clear hpi hnn hV hV0 hrd hps
 skip
 go_enter Tryz.func83,Tryz.ntmps83
 go_wp2_with fail
 go_loopw [4,6,7,8,12] (fun v _ _ _ i wr=>∃ (k m c:Nat) (A:Option Addr) (xs:List Int),k≤n∧m≤k∧i=.int .i64 k∧v=.slice A m c∧xs.length=m∧(Zt (ps.drop k)).map (xs++·)=V∧Own wr w.heap.size 3 (.slice A m c) (xs.map (Value.int .i64))∧Below w.heap.size w wr) (fun _ _ _ _ i _=>n - (intOf i).toNat)
 case atStart=>exact⟨0,0,0,_,[],by omega,by omega,rfl,rfl,rfl,HV0.o,Own.empty nlr,bA⟩
 case round =>
  clear HV0 bA
  obtain⟨k,m,c,A,xs,hk,hmk,rfl,rfl,hm,hg,hown,hbel⟩:=hrel
  have HM:=Hd hm;have HG:=Hd hg;have HO:=Hd hown
  clear hm hg hown
  by_cases hlt:k<n
  ·obtain⟨p,hp⟩:=Zc (l:=ps) (k:=k) (by rw[HN.o];exact hlt)
   have hpz:=HPS.o p (List.mem_of_getElem? hp)
   obtain⟨ad,rfl,hc⟩:=(HRD.o.below hbel hB).at_ (Zs Value.string hp)
   have hat:=Zd4 hp
   have hcl:=HPI.o p hpz wr hbel
   have hlt2:(k:Int)<(n:Int):=by omega
   cases hi:iP p with
   | none =>
    rw[hi] at hat hcl
    have hVn:V=none:=by rw[← HG.o,hat];rfl
    have HCL:=Hd hcl;have HVN:=Hd hVn
    clear hat hcl hVn hi hp
    go_wp2_with fail
    refine HCL.o.mono ?_
    rintro e w2 ⟨rfl,b2⟩
    go_wp2_with fail
    go_ret2
    exact⟨none,0,by rw[HVN.o];rfl,by rw[HVN.o];exact Own.nil,hbel.trans (b2.mono hbel.size)⟩
   | some z =>
    rw[hi] at hat hcl
    have hg2:(Zt (ps.drop (k+1))).map ((xs++[z])++·)=V:=by
     rw[← HG.o,hat]
     cases Zt (ps.drop (k+1)) with
     | none=>rfl
     | some r=>simp
    have HCL:=Hd hcl;have HG2:=Hd hg2
    have hlen:(xs.map (Value.int .i64)).length=m:=by rw[List.length_map];exact HM.o
    have HLE:=Hd hlen
    have hm9:m<4294967296:=by omega
    clear hat hcl hg2 hi hp hlen
    go_wp2_with fail
    refine HCL.o.mono ?_
    rintro e w2 ⟨rfl,b2⟩
    have hb2:=hbel.trans (b2.mono hbel.size)
    have HO1:=Hd (HO.o.below b2)
    have hsl:=hb2.size
    clear HO
    go_wp2_with (at_builtin;refine Zp rfl (.tmp 23) (.tmp 25) 83 rfl _ 8 Tryz.underlying83 Zu rfl rfl HO1.o _ rfl rfl m HLE.o hm9 (by decide) hsl ?_)
    intro A2 c2 w3 hown2 hbel2 hsz2
    rw[show xs.map (Value.int .i64)++[Value.int .i64 z]=(xs++[z]).map (Value.int .i64) from by rw[List.map_append];rfl] at hown2
    have HO2:=Hd hown2;clear hown2
    go_wp2_with fail
    go_roundw
    case rel=>exact⟨k+1,m+1,c2,A2,xs++[z],by omega,by omega,by go_num,rfl,by rw[List.length_append,HM.o];rfl,HG2.o,HO2.o,hb2.trans hbel2⟩
    case measure=>simp[intOf];omega
  ·have hkn:k=n:=by omega
   have hd:ps.drop k=[]:=List.drop_eq_nil_of_le (by rw[HN.o];omega)
   have hfin:V=some xs:=by rw[← HG.o,hd,Zt];simp
   have HF:=Hd hfin
   subst hkn
   clear hd hfin
   go_wp2_with fail
   go_ret2
   exact⟨A,c,by rw[HF.o];show _=Ending.returned (.tuple #[.slice A xs.length c,_]);rw[HM.o];rfl,by rw[HF.o];show Own _ _ _ (.slice A xs.length c) _;rw[HM.o];exact HO.o,hbel⟩
end Go.Proofs.YtocbgldilgemoaaGreatDoor
