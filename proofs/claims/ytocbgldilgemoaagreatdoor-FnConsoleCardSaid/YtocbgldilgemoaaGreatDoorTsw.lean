/- TurnSubst and ComposeSubst, both, at valid substitutions. No condition but the bounds. -/
import Derived.Test.YtocbgldilgemoaaGreatDoorIts
import Derived.Deep.RegionHeldLaw
namespace Go.Proofs.YtocbgldilgemoaaGreatDoor
set_option maxRecDepth 8000
set_option maxHeartbeats 4000000
open Go.RowKit
set_option linter.unusedVariables false
theorem ZcA {w w':World} {B q:Nat} {E:TypeId} {v:Value} {xs:List Value} (h:Own w B E v xs) (hg:w.grownBy w' v.ownBlock) (hq:q<B) (hs:q<w.heap.size):w'.heap[q]? = w.heap[q]?:=by
 refine hg.block q hs fun e=>?_
 cases hv:v.ownBlock with
 | none=>rw[hv] at e;cases e
 | some r =>
  have h1:=(World.ownsRow.lt h r hv).1
  rw[hv] at e
  injection e with e
  omega
theorem ZcB (w:World) (v:Value) (E:TypeId):∀ (j:Nat) (u:Value),[v][j]? = some u→(w.alloc (.cells #[v] E)).cell? ((⟨w.heap.size,0,none⟩:Addr).add j)=some u:=fun j u hu=>by
 match j,hu with
 | 0,hu=>simp at hu;subst hu;simp[Addr.add]
theorem Ja {f:ByteArray→ByteArray} {zs:List ByteArray} {k:Nat} {x:ByteArray} (h:zs[k]? = some x):(zs.map f).take (k+1)=(zs.map f).take k++[f x]:=by
 rw[List.take_add_one,List.getElem?_map,h];rfl
theorem W4 (zs:List ByteArray) (A:Option Addr) (cz B:Nat) (w:World) (hsu:Zf zs=true) (hrd:Rds w B A (zs.map Value.string)) (hB:B≤w.heap.size) :
  Calls Tryz.prog 114 #[.agg #[.slice A zs.length cz]] w fun e w'=>∃ A' c',e=.returned (.tuple #[.agg #[.slice A' zs.length c'],.bool true])∧Own w' w.heap.size 9 (.slice A' zs.length c') ((zs.map trn).map Value.string)∧Below w.heap.size w w':=by
 obtain⟨hz4,hz⟩:=ZE hsu
 obtain⟨w2,hw2⟩:∃ w2,(w.alloc (.cells #[.slice A zs.length cz] 26)).alloc (.cells #[.slice none 0 0] 26)=w2:=⟨_,rfl⟩
 have bw2:Below w.heap.size w w2:=by rw[← hw2];exact ((Below.refl _ _).alloc nlr _).alloc (by simp) _
 have z2:w2.heap.size=w.heap.size+2:=by rw[← hw2];simp
 have hA:w2.cell? ⟨w.heap.size,0,none⟩=some (.slice A zs.length cz):=by
  rw[← hw2]
  exact (((Below.refl _ _).alloc nlr _).cell (p:=⟨w.heap.size,0,none⟩) (by simp)).trans (cell_of_row _ _ 0 _ _ (0,0) (heap_alloc_new w _))
 have hq:w2.heap[w.heap.size+1]? = some (.cells #[.slice none 0 0] 26 (0,0)):=by
  rw[← hw2]
  have:=heap_alloc_new (w.alloc (.cells #[.slice A zs.length cz] 26)) (.cells #[.slice none 0 0] 26)
  simpa using this
 have hso:=Zz zs A cz B w2 (by omega) (by omega) (fun y hy=>by have:=(hz y hy).2.1;unfold maxLen;omega) (hrd.below bw2 hB)
 rw[hsu,z2] at hso
 have HSO:=Hd hso;have HA:=Hd hA;have HQ:=Hd hq;have HRD:=Hd hrd;have HZ:=Hd hz;have BW2:=Hd bw2;have Z2:=Hd z2
 clear hso hrd hz bw2 z2 hsu hq
 have kA:=hA
 clear hA
 go_enter Tryz.func114,Tryz.ntmps114
 go_wp2_with fail
 try rw[hw2]
 refine HSO.o.mono ?_
 rintro e w3 ⟨rfl,b3⟩
 clear hw2 kA HSO
 have z3:=b3.size
 rw[Z2.out] at z3
 have bO:Below w3.heap.size w3 (w3.alloc (.cells #[.slice none 0 0] 26)):=(Below.refl _ _).alloc nlr _
 have rO:=heap_alloc_new w3 (.cells #[.slice none 0 0] 26)
 have zO:(w3.alloc (.cells #[.slice none 0 0] 26)).heap.size=w3.heap.size+1:=by simp
 have b4:Below (w.heap.size+2) w2 (w3.alloc (.cells #[.slice none 0 0] 26)):=b3.trans (bO.mono z3)
 have hcA:=fun (v:World) (hv:Below (w.heap.size+2) w2 v)=>(hv.cell (p:=⟨w.heap.size,0,none⟩) (by show w.heap.size<w.heap.size+2;omega)).trans HA.o
 have HCA:=Hd hcA
 have hca3:=HCA.o _ b4
 have RO:=Hd rO;have B4:=Hd b4;have ZO:=Hd zO
 clear bO rO zO b4 b3 hcA
 go_wp2_with fail
 go_loopw [6,15] (fun _ i wr=>∃ (k c':Nat) (A':Option Addr),k≤zs.length∧i=.int .i64 k∧wr.heap[w3.heap.size]? = some (.cells #[.slice A' k c'] 26 (0,0))∧Own wr (w3.heap.size+1) 9 (.slice A' k c') (((zs.map trn).take k).map Value.string)∧Below (w.heap.size+2) w2 wr∧w3.heap.size+1≤wr.heap.size) (fun _ i _=>zs.length - (intOf i).toNat)
 case atStart=>exact⟨0,0,none,by omega,rfl,RO.out,Own.nil,B4.out,by rw[ZO.out];exact Nat.le_refl _⟩
 case round =>
  clear RO B4 ZO hca3
  obtain⟨k,c',A',hk,rfl,hbx,how,hbe,hsz⟩:=hrel
  have HBX:=Hd hbx;have HOW:=Hd how;have HBE:=Hd hbe
  have hcb:wr.cell? ⟨w3.heap.size,0,none⟩=some (.slice A' k c'):=cell_of_row _ _ 0 _ _ (0,0) hbx
  have hfb:wr.frozen? ⟨w3.heap.size,0,none⟩=false:=frozen_of_row _ _ 0 _ _ hbx
  have hbw:Below w.heap.size w wr:=BW2.out.trans (hbe.mono (by omega))
  have HBW:=Hd hbw
  clear hbx how hbe hbw
  by_cases hlt:k<zs.length
  ·obtain⟨x,hx⟩:=Zc (l:=zs) (k:=k) hlt
   have hxm:=List.mem_of_getElem? hx
   obtain⟨hx1,hx8,hxl⟩:=HZ.o x hxm
   have hsn:=Ja (f:=trn) hx
   obtain⟨ad,rfl,hcx⟩:=(HRD.o.below HBW.o hB).at_ (Zs Value.string hx)
   have hlt2:(k:Int)<(zs.length:Int):=by omega
   have hcl:=J6 x (by omega) wr.drew
   obtain⟨y,hy⟩:∃ y,trn x=y:=⟨_,rfl⟩
   rw[hy] at hcl hsn
   have hbx0:wr.drew.heap[w3.heap.size]? = some (.cells #[.slice A' k c'] 26 (0,0)):=HBX.o
   have HCL:=Hd hcl;have HSN:=Hd hsn;have BX0:=Hd hbx0;have OW0:=Hd (HOW.o.dr (Dr.refl wr).drew)
   have hzd:wr.drew.heap.size=wr.heap.size:=by simp
   clear hcl hsn hbx0 hx hxm hy hxl
   have HKB:Hid (∀ v:World,v.heap[w3.heap.size]? = some (.cells #[.slice A' k c'] 26 (0,0))→v.cell? ⟨w3.heap.size,0,none⟩=some (.slice A' k c')):=Hd fun v h=>cell_of_row _ _ 0 _ _ (0,0) h
   have hcb0:=HKB.o _ BX0.out
   have hzm:(((zs.map trn).take k).map Value.string).length=k:=by rw[List.length_map,List.length_take,List.length_map];omega
   have HZM:=Hd hzm;clear hzm
   have hk1:k+1<4294967296:=by omega
   go_wp2_with fail
   go_region_law
    (first
     | (refine Qh rfl (.tmp 20) (.tmp 23) 23 rfl _ 16 Tryz.underlying23 Zn rfl (w3.heap.size+1) k HZM.o (by rfl) ((OW0.out.below b4).below ((Below.refl _ _).alloc nlr _)) ⟨w4.heap.size,0,none⟩ 1 1 [.string y] (by rfl) rfl (ZcB w4 _ _) (fun u hu=>by simp at hu;subst hu;rfl) (k+1) rfl hk1 (by decide) (by have:=b4.size;simp at this ⊢;omega) ?_;intro A5 cc w5 o5 g5 a5 n5;have Q5:=Hd ((ZcA ((OW0.out.below b4).below ((Below.refl _ _).alloc nlr _)) g5 (q:=w3.heap.size) (by omega) (by have:=b4.size;simp at this ⊢;omega)).trans ((((Below.refl w4.heap.size w4).alloc nlr (.cells #[.string y] 9)).block w3.heap.size (by have:=b4.size;simp at this;omega)).trans BX1.out));have f5:=frozen_of_row _ _ 0 _ _ Q5.out;have k5:=cell_of_row _ _ 0 _ _ (0,0) Q5.out)
     | (go_simp;go_wp2_with (go_at_call 187;refine HCL.o.mono ?_;rintro e w4 ⟨rfl,b4⟩;have BX1:=Hd ((b4.block w3.heap.size (by simp;omega)).trans BX0.out);have k3:=HKB.o _ BX1.out;have k4a:(w4.alloc (.cells #[.string y] 9)).cell? ⟨w3.heap.size,0,none⟩=some (.slice A' k c'):=(((Below.refl w4.heap.size w4).alloc nlr _).cell (p:=⟨w3.heap.size,0,none⟩) (by show w3.heap.size<w4.heap.size;have:=b4.size;simp at this;omega)).trans k3)))
   all_goals
    have s4:=b4.size
    rw[hzd] at s4
    have hOA:=(OW0.out.below b4).below ((Below.refl w4.heap.size w4).alloc nlr (.cells #[.string y] 9))
    have bAl:=(Below.refl w4.heap.size w4).alloc nlr (.cells #[.string y] 9)
    have zAl:(w4.alloc (.cells #[.string y] 9)).heap.size=w4.heap.size+1:=by simp
    have s5:=g5.size
    rw[zAl] at s5
    have b45:Below (w3.heap.size+1) w4 w5:=Qy (bAl.mono (by omega)) (by omega) hOA g5
    have be5:Below (w.heap.size+2) w2 w5:=(((HBE.o.drew).trans (b4.mono (by rw[hzd];omega))).trans (b45.mono (by omega)))
    rw[show ((zs.map trn).take k).map Value.string++[Value.string y]=((zs.map trn).take (k+1)).map Value.string by rw[HSN.o,List.map_append];rfl] at o5
    have HB5:=Hd (Zg (k:=0) Q5.out (.slice A5 (k+1) cc))
    have HO5:=Hd (o5.far_set (g:=w3.heap.size) (k:=0) (by omega) (.slice A5 (k+1) cc))
    have HBB:=Hd (be5.setCell (show w.heap.size+2≤w3.heap.size by omega) (p:=⟨w3.heap.size,0,none⟩) (.slice A5 (k+1) cc))
    clear hOA bAl b45 be5 o5 g5 a5 n5 f5 k5 k4a k3 b4 hcb0 hcb hfb hcx
    go_wp2_with fail
    go_roundw
    case rel=>exact⟨k+1,cc,A5,by omega,by go_num,HB5.o,HO5.o,HBB.o,by rw[World.size_setCell];omega⟩
    case measure=>simp[intOf];omega
  ·have hkm:k=zs.length:=by omega
   have hall:(zs.map trn).take k=zs.map trn:=List.take_of_length_le (by rw[List.length_map];omega)
   have how2:=HOW.o
   rw[hall] at how2
   have hq0:=(HBE.o.block (w.heap.size+1) (by omega)).trans HQ.o
   have kq0:=cell_of_row _ _ 0 _ _ (0,0) hq0
   have fq0:=frozen_of_row _ _ 0 _ _ hq0
   have HO2:=Hd how2
   clear hall how2
   subst hkm
   have hlt3:¬ ((zs.length:Int)<(zs.length:Int)):=by omega
   go_wp2_with fail
   refine bodyPost_ret (Za rfl _ _ (w.heap.size+1) 26 _ (0,0) _ rfl (Zg (k:=0) hq0 (.slice A' zs.length c')) Tryz.underlying26 rfl (by kernel_rfl)) rfl ?_
   have hX:=(HO2.o.far_set (g:=w.heap.size+1) (k:=0) (by omega) (.slice A' zs.length c')).lower (B:=w3.heap.size+1) (B':=w.heap.size) (by omega)
   refine⟨A',c',rfl,by first|exact hX|(rw[List.map_map] at hX;exact hX),HBW.o.setCell (p:=⟨w.heap.size+1,0,none⟩) (by show w.heap.size≤w.heap.size+1;omega) _⟩
theorem W5 (zs:List ByteArray) (A:Option Addr) (cz B:Nat) (w:World) (hsu:Zf zs=true) (hrd:Rds w B A (zs.map Value.string)) (hB:B≤w.heap.size) :
  Calls Tryz.prog 92 #[.agg #[.slice A zs.length cz]] w fun e w'=>∃ A' c',e=.returned (.tuple #[.agg #[.slice A' zs.length c'],.bool true])∧Own w' w.heap.size 9 (.slice A' zs.length c') ((zs.map trn).map Value.string)∧Below w.heap.size w w':=by
 obtain⟨hz4,hz⟩:=ZE hsu
 obtain⟨w2,hw2⟩:∃ w2,(w.alloc (.cells #[.slice A zs.length cz] 26)).alloc (.cells #[.slice none 0 0] 26)=w2:=⟨_,rfl⟩
 have bw2:Below w.heap.size w w2:=by rw[← hw2];exact ((Below.refl _ _).alloc nlr _).alloc (by simp) _
 have z2:w2.heap.size=w.heap.size+2:=by rw[← hw2];simp
 have hA:w2.cell? ⟨w.heap.size,0,none⟩=some (.slice A zs.length cz):=by
  rw[← hw2]
  exact (((Below.refl _ _).alloc nlr _).cell (p:=⟨w.heap.size,0,none⟩) (by simp)).trans (cell_of_row _ _ 0 _ _ (0,0) (heap_alloc_new w _))
 have hq:w2.heap[w.heap.size+1]? = some (.cells #[.slice none 0 0] 26 (0,0)):=by
  rw[← hw2]
  have:=heap_alloc_new (w.alloc (.cells #[.slice A zs.length cz] 26)) (.cells #[.slice none 0 0] 26)
  simpa using this
 have hso:=ZB zs A cz B w2 (by omega) (by omega) (fun y hy=>by have:=(hz y hy).2.1;unfold maxLen;omega) (hrd.below bw2 hB)
 rw[hsu,z2] at hso
 have HSO:=Hd hso;have HA:=Hd hA;have HQ:=Hd hq;have HRD:=Hd hrd;have HZ:=Hd hz;have BW2:=Hd bw2;have Z2:=Hd z2
 clear hso hrd hz bw2 z2 hsu hq
 have kA:=hA
 clear hA
 go_enter Tryz.func92,Tryz.ntmps92
 go_wp2_with fail
 try rw[hw2]
 refine HSO.o.mono ?_
 rintro e w3 ⟨rfl,b3⟩
 clear hw2 kA HSO
 have z3:=b3.size
 rw[Z2.out] at z3
 have bO:Below w3.heap.size w3 (w3.alloc (.cells #[.slice none 0 0] 26)):=(Below.refl _ _).alloc nlr _
 have rO:=heap_alloc_new w3 (.cells #[.slice none 0 0] 26)
 have zO:(w3.alloc (.cells #[.slice none 0 0] 26)).heap.size=w3.heap.size+1:=by simp
 have b4:Below (w.heap.size+2) w2 (w3.alloc (.cells #[.slice none 0 0] 26)):=b3.trans (bO.mono z3)
 have hcA:=fun (v:World) (hv:Below (w.heap.size+2) w2 v)=>(hv.cell (p:=⟨w.heap.size,0,none⟩) (by show w.heap.size<w.heap.size+2;omega)).trans HA.o
 have HCA:=Hd hcA
 have hca3:=HCA.o _ b4
 have RO:=Hd rO;have B4:=Hd b4;have ZO:=Hd zO
 clear bO rO zO b4 b3 hcA
 go_wp2_with fail
 go_loopw [6,15] (fun _ i wr=>∃ (k c':Nat) (A':Option Addr),k≤zs.length∧i=.int .i64 k∧wr.heap[w3.heap.size]? = some (.cells #[.slice A' k c'] 26 (0,0))∧Own wr (w3.heap.size+1) 9 (.slice A' k c') (((zs.map trn).take k).map Value.string)∧Below (w.heap.size+2) w2 wr∧w3.heap.size+1≤wr.heap.size) (fun _ i _=>zs.length - (intOf i).toNat)
 case atStart=>exact⟨0,0,none,by omega,rfl,RO.out,Own.nil,B4.out,by rw[ZO.out];exact Nat.le_refl _⟩
 case round =>
  clear RO B4 ZO hca3
  obtain⟨k,c',A',hk,rfl,hbx,how,hbe,hsz⟩:=hrel
  have HBX:=Hd hbx;have HOW:=Hd how;have HBE:=Hd hbe
  have hcb:wr.cell? ⟨w3.heap.size,0,none⟩=some (.slice A' k c'):=cell_of_row _ _ 0 _ _ (0,0) hbx
  have hfb:wr.frozen? ⟨w3.heap.size,0,none⟩=false:=frozen_of_row _ _ 0 _ _ hbx
  have hbw:Below w.heap.size w wr:=BW2.out.trans (hbe.mono (by omega))
  have HBW:=Hd hbw
  clear hbx how hbe hbw
  by_cases hlt:k<zs.length
  ·obtain⟨x,hx⟩:=Zc (l:=zs) (k:=k) hlt
   have hxm:=List.mem_of_getElem? hx
   obtain⟨hx1,hx8,hxl⟩:=HZ.o x hxm
   have hsn:=Ja (f:=trn) hx
   obtain⟨ad,rfl,hcx⟩:=(HRD.o.below HBW.o hB).at_ (Zs Value.string hx)
   have hlt2:(k:Int)<(zs.length:Int):=by omega
   have hcl:=JC x (by omega) wr.drew
   obtain⟨y,hy⟩:∃ y,trn x=y:=⟨_,rfl⟩
   rw[hy] at hcl hsn
   have hbx0:wr.drew.heap[w3.heap.size]? = some (.cells #[.slice A' k c'] 26 (0,0)):=HBX.o
   have HCL:=Hd hcl;have HSN:=Hd hsn;have BX0:=Hd hbx0;have OW0:=Hd (HOW.o.dr (Dr.refl wr).drew)
   have hzd:wr.drew.heap.size=wr.heap.size:=by simp
   clear hcl hsn hbx0 hx hxm hy hxl
   have HKB:Hid (∀ v:World,v.heap[w3.heap.size]? = some (.cells #[.slice A' k c'] 26 (0,0))→v.cell? ⟨w3.heap.size,0,none⟩=some (.slice A' k c')):=Hd fun v h=>cell_of_row _ _ 0 _ _ (0,0) h
   have hcb0:=HKB.o _ BX0.out
   have hzm:(((zs.map trn).take k).map Value.string).length=k:=by rw[List.length_map,List.length_take,List.length_map];omega
   have HZM:=Hd hzm;clear hzm
   have hk1:k+1<4294967296:=by omega
   go_wp2_with fail
   go_region_law
    (first
     | (refine Qh rfl (.tmp 20) (.tmp 23) 23 rfl _ 16 Tryz.underlying23 Zn rfl (w3.heap.size+1) k HZM.o (by rfl) ((OW0.out.below b4).below ((Below.refl _ _).alloc nlr _)) ⟨w4.heap.size,0,none⟩ 1 1 [.string y] (by rfl) rfl (ZcB w4 _ _) (fun u hu=>by simp at hu;subst hu;rfl) (k+1) rfl hk1 (by decide) (by have:=b4.size;simp at this ⊢;omega) ?_;intro A5 cc w5 o5 g5 a5 n5;have Q5:=Hd ((ZcA ((OW0.out.below b4).below ((Below.refl _ _).alloc nlr _)) g5 (q:=w3.heap.size) (by omega) (by have:=b4.size;simp at this ⊢;omega)).trans ((((Below.refl w4.heap.size w4).alloc nlr (.cells #[.string y] 9)).block w3.heap.size (by have:=b4.size;simp at this;omega)).trans BX1.out));have f5:=frozen_of_row _ _ 0 _ _ Q5.out;have k5:=cell_of_row _ _ 0 _ _ (0,0) Q5.out)
     | (go_simp;go_wp2_with (go_at_call 172;refine HCL.o.mono ?_;rintro e w4 ⟨rfl,b4⟩;have BX1:=Hd ((b4.block w3.heap.size (by simp;omega)).trans BX0.out);have k3:=HKB.o _ BX1.out;have k4a:(w4.alloc (.cells #[.string y] 9)).cell? ⟨w3.heap.size,0,none⟩=some (.slice A' k c'):=(((Below.refl w4.heap.size w4).alloc nlr _).cell (p:=⟨w3.heap.size,0,none⟩) (by show w3.heap.size<w4.heap.size;have:=b4.size;simp at this;omega)).trans k3)))
   all_goals
    have s4:=b4.size
    rw[hzd] at s4
    have hOA:=(OW0.out.below b4).below ((Below.refl w4.heap.size w4).alloc nlr (.cells #[.string y] 9))
    have bAl:=(Below.refl w4.heap.size w4).alloc nlr (.cells #[.string y] 9)
    have zAl:(w4.alloc (.cells #[.string y] 9)).heap.size=w4.heap.size+1:=by simp
    have s5:=g5.size
    rw[zAl] at s5
    have b45:Below (w3.heap.size+1) w4 w5:=Qy (bAl.mono (by omega)) (by omega) hOA g5
    have be5:Below (w.heap.size+2) w2 w5:=(((HBE.o.drew).trans (b4.mono (by rw[hzd];omega))).trans (b45.mono (by omega)))
    rw[show ((zs.map trn).take k).map Value.string++[Value.string y]=((zs.map trn).take (k+1)).map Value.string by rw[HSN.o,List.map_append];rfl] at o5
    have HB5:=Hd (Zg (k:=0) Q5.out (.slice A5 (k+1) cc))
    have HO5:=Hd (o5.far_set (g:=w3.heap.size) (k:=0) (by omega) (.slice A5 (k+1) cc))
    have HBB:=Hd (be5.setCell (show w.heap.size+2≤w3.heap.size by omega) (p:=⟨w3.heap.size,0,none⟩) (.slice A5 (k+1) cc))
    clear hOA bAl b45 be5 o5 g5 a5 n5 f5 k5 k4a k3 b4 hcb0 hcb hfb hcx
    go_wp2_with fail
    go_roundw
    case rel=>exact⟨k+1,cc,A5,by omega,by go_num,HB5.o,HO5.o,HBB.o,by rw[World.size_setCell];omega⟩
    case measure=>simp[intOf];omega
  ·have hkm:k=zs.length:=by omega
   have hall:(zs.map trn).take k=zs.map trn:=List.take_of_length_le (by rw[List.length_map];omega)
   have how2:=HOW.o
   rw[hall] at how2
   have hq0:=(HBE.o.block (w.heap.size+1) (by omega)).trans HQ.o
   have kq0:=cell_of_row _ _ 0 _ _ (0,0) hq0
   have fq0:=frozen_of_row _ _ 0 _ _ hq0
   have HO2:=Hd how2
   clear hall how2
   subst hkm
   have hlt3:¬ ((zs.length:Int)<(zs.length:Int)):=by omega
   go_wp2_with fail
   refine bodyPost_ret (Za rfl _ _ (w.heap.size+1) 26 _ (0,0) _ rfl (Zg (k:=0) hq0 (.slice A' zs.length c')) Tryz.underlying26 rfl (by kernel_rfl)) rfl ?_
   have hX:=(HO2.o.far_set (g:=w.heap.size+1) (k:=0) (by omega) (.slice A' zs.length c')).lower (B:=w3.heap.size+1) (B':=w.heap.size) (by omega)
   refine⟨A',c',rfl,by first|exact hX|(rw[List.map_map] at hX;exact hX),HBW.o.setCell (p:=⟨w.heap.size+1,0,none⟩) (by show w.heap.size≤w.heap.size+1;omega) _⟩
theorem Y7 {ys:List ByteArray} {x:ByteArray} (hsu:Zf ys=true) (hx8:x.size≤8) (hl:Qs ys.length (L x)):(apS ys x).size≤64:=by
 have:=(Zbc hsu hl).2
 rw[Vo];rw[Zj] at this;omega
theorem W6 (zs:List ByteArray) (A:Option Addr) (nz cz B:Nat) (x:ByteArray) (w:World) (hl:zs.length=nz) (hsu:Zf zs=true) (hx:x.size≤8) (hlet:Qs zs.length (L x)) (hrd:Rds w B A (zs.map Value.string)) (hB:B≤w.heap.size) :
  Calls Tryz.prog 171 #[.agg #[.slice A nz cz],.string x] w fun e w'=>e=.returned (.string (apS zs x))∧Below w.heap.size w w':=by
 refine (J2 zs A nz cz B x w hl hsu (by omega) hlet hrd hB).mono ?_
 rintro e w' ⟨u,rfl,h1,h2,h3,b⟩
 have:=Y7 hsu hx hlet
 exact⟨by rw[h2 (by omega)],b⟩
theorem ZcC (zs ys:List ByteArray) (A A2:Option Addr) (cz cy B:Nat) (w:World) (hsu:Zf zs=true) (hsy:Zf ys=true) (hrd:Rds w B A (zs.map Value.string)) (hry:Rds w B A2 (ys.map Value.string)) (hB:B≤w.heap.size) :
  Calls Tryz.prog 122 #[.agg #[.slice A zs.length cz],.agg #[.slice A2 ys.length cy]] w fun e w'=>∃ A' c',e=.returned (.tuple #[.agg #[.slice A' ((cmV zs ys).getD []).length c'],.bool (cmV zs ys).isSome])∧Own w' w.heap.size 9 (.slice A' ((cmV zs ys).getD []).length c') (((cmV zs ys).getD []).map Value.string)∧Below w.heap.size w w':=by
 obtain⟨hz4,hz⟩:=ZE hsu
 obtain⟨hy4,hyz⟩:=ZE hsy
 obtain⟨w2,hw2⟩:∃ w2,((w.alloc (.cells #[.slice A zs.length cz] 26)).alloc (.cells #[.slice A2 ys.length cy] 26)).alloc (.cells #[.slice none 0 0] 26)=w2:=⟨_,rfl⟩
 have bw2:Below w.heap.size w w2:=by rw[← hw2];exact (((Below.refl _ _).alloc nlr _).alloc (by simp) _).alloc (by simp;omega) _
 have z2:w2.heap.size=w.heap.size+3:=by rw[← hw2];simp
 have hA:w2.cell? ⟨w.heap.size,0,none⟩=some (.slice A zs.length cz):=by
  rw[← hw2]
  exact ((((Below.refl (w.heap.size+1) _).alloc (by simp) _).alloc (by first|(simp;done)|(simp;omega)) _).cell (p:=⟨w.heap.size,0,none⟩) (by simp)).trans (cell_of_row _ _ 0 _ _ (0,0) (heap_alloc_new w _))
 have hA2:w2.cell? ⟨w.heap.size+1,0,none⟩=some (.slice A2 ys.length cy):=by
  rw[← hw2]
  have h1:=heap_alloc_new (w.alloc (.cells #[.slice A zs.length cz] 26)) (.cells #[.slice A2 ys.length cy] 26)
  have h2:=cell_of_row _ _ 0 _ _ (0,0) h1
  have e1:(w.alloc (.cells #[.slice A zs.length cz] 26)).heap.size=w.heap.size+1:=by simp
  rw[e1] at h2
  exact (((Below.refl (w.heap.size+2) _).alloc (by simp) _).cell (p:=⟨w.heap.size+1,0,none⟩) (by simp)).trans h2
 have hq:w2.heap[w.heap.size+2]? = some (.cells #[.slice none 0 0] 26 (0,0)):=by
  rw[← hw2]
  have:=heap_alloc_new ((w.alloc (.cells #[.slice A zs.length cz] 26)).alloc (.cells #[.slice A2 ys.length cy] 26)) (.cells #[.slice none 0 0] 26)
  simpa using this
 have hso:=Zz zs A cz B w2 (by omega) (by omega) (fun y hy=>by have:=(hz y hy).2.1;unfold maxLen;omega) (hrd.below bw2 hB)
 rw[hsu,z2] at hso
 have hsoy:=fun v (r:Rds v B A2 (ys.map Value.string)) hb=>Zz ys A2 cy B v hb (by omega) (fun y hy=>by have:=(hyz y hy).2.1;unfold maxLen;omega) r
 rw[hsy] at hsoy
 have HSO:=Hd hso;have HA:=Hd hA;have HA2:=Hd hA2;have HQ:=Hd hq;have HRD:=Hd hrd;have HRY:=Hd hry;have HZ:=Hd hz;have BW2:=Hd bw2;have Z2:=Hd z2;have HSOY:=Hd hsoy;have HSX:=Hd hsu;have HSY:=Hd hsy
 obtain⟨V,hV⟩:∃ V,cmV zs ys=V:=⟨_,rfl⟩
 rw[hV]
 have HV:=Hd hV
 have kA:=hA
 have kA2:=hA2
 by_cases hyl:zs.length=ys.length
 ·have HYL:=Hd hyl
  have hyl2:((zs.length:Int) != (ys.length:Int))=false:=by rw[hyl];simp
  clear hso hrd hry hz hyz bw2 z2 hsu hsy hq hV hsoy hA hA2 hyl
  go_enter Tryz.func122,Tryz.ntmps122
  go_wp2_with fail
  try rw[hw2]
  refine HSO.o.mono ?_
  rintro e w30 ⟨rfl,b30⟩
  have z30:=b30.size
  rw[Z2.out] at z30
  have kB:=(b30.cell (p:=⟨w.heap.size,0,none⟩) (by show w.heap.size<w.heap.size+3;omega)).trans HA.o
  have kB2:=(b30.cell (p:=⟨w.heap.size+1,0,none⟩) (by show w.heap.size+1<w.heap.size+3;omega)).trans HA2.o
  clear hw2 kA kA2 HSO
  go_wp2_with fail
  refine (HSOY.o w30 (HRY.o.below (BW2.out.trans (b30.mono (by omega))) hB) (by omega)).mono ?_
  rintro e w3 ⟨rfl,b31⟩
  have b3:Below (w.heap.size+3) w2 w3:=b30.trans (b31.mono z30)
  have kC:=(b31.cell (p:=⟨w.heap.size,0,none⟩) (by show w.heap.size<w30.heap.size;omega)).trans kB
  have kC2:=(b31.cell (p:=⟨w.heap.size+1,0,none⟩) (by show w.heap.size+1<w30.heap.size;omega)).trans kB2
  clear b30 b31 kB kB2 z30
  have z3:=b3.size
  rw[Z2.out] at z3
  have bO:Below w3.heap.size w3 (w3.alloc (.cells #[.slice none 0 0] 26)):=(Below.refl _ _).alloc nlr _
  have rO:=heap_alloc_new w3 (.cells #[.slice none 0 0] 26)
  have zO:(w3.alloc (.cells #[.slice none 0 0] 26)).heap.size=w3.heap.size+1:=by simp
  have b4:Below (w.heap.size+3) w2 (w3.alloc (.cells #[.slice none 0 0] 26)):=b3.trans (bO.mono z3)
  have hcA:=fun (v:World) (hv:Below (w.heap.size+3) w2 v)=>(hv.cell (p:=⟨w.heap.size,0,none⟩) (by show w.heap.size<w.heap.size+3;omega)).trans HA.o
  have HCA:=Hd hcA
  have hca3:=HCA.o _ b4
  have RO:=Hd rO;have B4:=Hd b4;have ZO:=Hd zO
  clear bO rO zO b4 b3 hcA
  go_wp2_with fail
  go_loopw [8,31] (fun _ i wr=>∃ (k c':Nat) (A':Option Addr),k≤zs.length∧i=.int .i64 k∧wr.heap[w3.heap.size]? = some (.cells #[.slice A' k c'] 26 (0,0))∧Own wr (w3.heap.size+1) 9 (.slice A' k c') (((zs.map (apS ys)).take k).map Value.string)∧Below (w.heap.size+3) w2 wr∧w3.heap.size+1≤wr.heap.size) (fun _ i _=>zs.length - (intOf i).toNat)
  case atStart=>exact⟨0,0,none,by omega,rfl,RO.out,Own.nil,B4.out,by rw[ZO.out];exact Nat.le_refl _⟩
  case round =>
   clear RO B4 ZO hca3
   obtain⟨k,c',A',hk,rfl,hbx,how,hbe,hsz⟩:=hrel
   have HBX:=Hd hbx;have HOW:=Hd how;have HBE:=Hd hbe
   have hcb:wr.cell? ⟨w3.heap.size,0,none⟩=some (.slice A' k c'):=cell_of_row _ _ 0 _ _ (0,0) hbx
   have hfb:wr.frozen? ⟨w3.heap.size,0,none⟩=false:=frozen_of_row _ _ 0 _ _ hbx
   have hbw:Below w.heap.size w wr:=BW2.out.trans (hbe.mono (by omega))
   have HBW:=Hd hbw
   clear hbx how hbe hbw
   by_cases hlt:k<zs.length
   ·obtain⟨x,hx⟩:=Zc (l:=zs) (k:=k) hlt
    have hxm:=List.mem_of_getElem? hx
    obtain⟨hx1,hx8,hxl⟩:=HZ.o x hxm
    have hsn:=Ja (f:=(apS ys)) hx
    obtain⟨ad,rfl,hcx⟩:=(HRD.o.below HBW.o hB).at_ (Zs Value.string hx)
    have hlt2:(k:Int)<(zs.length:Int):=by omega
    have hbox2:wr.drew.cell? ⟨w.heap.size+1,0,none⟩=some (.slice A2 ys.length cy):=((HBE.o.cell (p:=⟨w.heap.size+1,0,none⟩) (by show w.heap.size+1<w.heap.size+3;omega)).trans HA2.o);have hcl:=ZaN ys A2 ys.length cy B x wr.drew rfl HSY.o (by omega) (by rw[← HYL.o];exact hxl) ((HRY.o.below HBW.o hB).dr (Dr.refl wr).drew) (by show B≤wr.heap.size;omega)
    obtain⟨y,hy⟩:∃ y,(apS ys) x=y:=⟨_,rfl⟩
    rw[hy] at hcl hsn
    have hbx0:wr.drew.heap[w3.heap.size]? = some (.cells #[.slice A' k c'] 26 (0,0)):=HBX.o
    have HCL:=Hd hcl;have HSN:=Hd hsn;have BX0:=Hd hbx0;have OW0:=Hd (HOW.o.dr (Dr.refl wr).drew)
    have hzd:wr.drew.heap.size=wr.heap.size:=by simp
    clear hcl hsn hbx0 hx hxm hy hxl
    have HKB:Hid (∀ v:World,v.heap[w3.heap.size]? = some (.cells #[.slice A' k c'] 26 (0,0))→v.cell? ⟨w3.heap.size,0,none⟩=some (.slice A' k c')):=Hd fun v h=>cell_of_row _ _ 0 _ _ (0,0) h
    have hcb0:=HKB.o _ BX0.out
    have hzm:(((zs.map (apS ys)).take k).map Value.string).length=k:=by rw[List.length_map,List.length_take,List.length_map];omega
    have HZM:=Hd hzm;clear hzm
    have hk1:k+1<4294967296:=by omega
    go_wp2_with fail
    go_region_law
     (first
      | (refine Qh rfl (.tmp 36) (.tmp 40) 23 rfl _ 16 Tryz.underlying23 Zn rfl (w3.heap.size+1) k HZM.o (by rfl) ((OW0.out.below b4).below ((Below.refl _ _).alloc nlr _)) ⟨w4.heap.size,0,none⟩ 1 1 [.string y] (by rfl) rfl (ZcB w4 _ _) (fun u hu=>by simp at hu;subst hu;rfl) (k+1) rfl hk1 (by decide) (by have:=b4.size;simp at this ⊢;omega) ?_;intro A5 cc w5 o5 g5 a5 n5;have Q5:=Hd ((ZcA ((OW0.out.below b4).below ((Below.refl _ _).alloc nlr _)) g5 (q:=w3.heap.size) (by omega) (by have:=b4.size;simp at this ⊢;omega)).trans ((((Below.refl w4.heap.size w4).alloc nlr (.cells #[.string y] 9)).block w3.heap.size (by have:=b4.size;simp at this;omega)).trans BX1.out));have f5:=frozen_of_row _ _ 0 _ _ Q5.out;have k5:=cell_of_row _ _ 0 _ _ (0,0) Q5.out)
      | (go_simp;go_wp2_with (go_at_call 199;refine HCL.o.mono ?_;rintro e w4 ⟨rfl,b4⟩;have BX1:=Hd ((b4.block w3.heap.size (by simp;omega)).trans BX0.out);have k3:=HKB.o _ BX1.out;have k4a:(w4.alloc (.cells #[.string y] 9)).cell? ⟨w3.heap.size,0,none⟩=some (.slice A' k c'):=(((Below.refl w4.heap.size w4).alloc nlr _).cell (p:=⟨w3.heap.size,0,none⟩) (by show w3.heap.size<w4.heap.size;have:=b4.size;simp at this;omega)).trans k3)))
    all_goals
     have s4:=b4.size
     rw[hzd] at s4
     have hOA:=(OW0.out.below b4).below ((Below.refl w4.heap.size w4).alloc nlr (.cells #[.string y] 9))
     have bAl:=(Below.refl w4.heap.size w4).alloc nlr (.cells #[.string y] 9)
     have zAl:(w4.alloc (.cells #[.string y] 9)).heap.size=w4.heap.size+1:=by simp
     have s5:=g5.size
     rw[zAl] at s5
     have b45:Below (w3.heap.size+1) w4 w5:=Qy (bAl.mono (by omega)) (by omega) hOA g5
     have be5:Below (w.heap.size+3) w2 w5:=(((HBE.o.drew).trans (b4.mono (by rw[hzd];omega))).trans (b45.mono (by omega)))
     rw[show ((zs.map (apS ys)).take k).map Value.string++[Value.string y]=((zs.map (apS ys)).take (k+1)).map Value.string by rw[HSN.o,List.map_append];rfl] at o5
     have HB5:=Hd (Zg (k:=0) Q5.out (.slice A5 (k+1) cc))
     have HO5:=Hd (o5.far_set (g:=w3.heap.size) (k:=0) (by omega) (.slice A5 (k+1) cc))
     have HBB:=Hd (be5.setCell (show w.heap.size+3≤w3.heap.size by omega) (p:=⟨w3.heap.size,0,none⟩) (.slice A5 (k+1) cc))
     clear hOA bAl b45 be5 o5 g5 a5 n5 f5 k5 k4a k3 b4 hcb0 hcb hfb hcx
     go_wp2_with fail
     go_roundw
     case rel=>exact⟨k+1,cc,A5,by omega,by go_num,HB5.o,HO5.o,HBB.o,by rw[World.size_setCell];omega⟩
     case measure=>simp[intOf];omega
   ·have hkm:k=zs.length:=by omega
    have hall:(zs.map (apS ys)).take k=zs.map (apS ys):=List.take_of_length_le (by rw[List.length_map];omega)
    have how2:=HOW.o
    rw[hall] at how2
    have hq0:=(HBE.o.block (w.heap.size+2) (by omega)).trans HQ.o
    have kq0:=cell_of_row _ _ 0 _ _ (0,0) hq0
    have fq0:=frozen_of_row _ _ 0 _ _ hq0
    have HO2:=Hd how2
    clear hall how2
    subst hkm
    have hlt3:¬ ((zs.length:Int)<(zs.length:Int)):=by omega
    have hso3:=Zz (zs.map (apS ys)) A' c' wr.heap.size wr nlr (by rw[List.length_map];omega) (fun y hy=>by
     obtain⟨x,hx,rfl⟩:=List.mem_map.1 hy
     have h1:=HZ.o x hx
     have:=Y7 (x:=x) HSY.o h1.2.1 (by rw[← HYL.o];exact h1.2.2)
     unfold maxLen;omega) HO2.o.reads
    rw[List.length_map] at hso3
    have HVN:=HV
    cases hb:Zf (zs.map (apS ys)) with
    | false =>
     rw[hb] at hso3
     have hv:V=none:=by rw[← HV.o,cmV,if_neg];intro h;rw[hb] at h;exact absurd h.2.2.2 (by decide)
     have HSO3:=Hd hso3;have HV2:=Hd hv
     clear hso3 hb hv
     go_wp2_with fail
     refine HSO3.o.mono ?_
     rintro e w6 ⟨rfl,b6⟩
     have hq6:=(b6.block (w.heap.size+2) (by omega)).trans hq0
     have kq6:=cell_of_row _ _ 0 _ _ (0,0) hq6
     have fq6:=frozen_of_row _ _ 0 _ _ hq6
     go_wp2_with fail
     refine bodyPost_ret (Za rfl _ _ (w.heap.size+2) 26 _ (0,0) _ rfl (Zg (k:=0) hq6 (.slice none 0 0)) Tryz.underlying26 rfl (by kernel_rfl)) rfl ?_
     exact⟨none,0,by rw[HV2.o];rfl,by rw[HV2.o];exact Own.nil,(HBW.o.trans (b6.mono (by omega))).setCell (p:=⟨w.heap.size+2,0,none⟩) (by show w.heap.size≤w.heap.size+2;omega) _⟩
    | true =>
     rw[hb] at hso3
     have hv:V=some (zs.map (apS ys)):=by rw[← HV.o,cmV,if_pos ⟨HSX.o,HSY.o,HYL.o,hb⟩]
     have HSO3:=Hd hso3;have HV2:=Hd hv
     clear hso3 hb hv
     go_wp2_with fail
     refine HSO3.o.mono ?_
     rintro e w6 ⟨rfl,b6⟩
     have hq6:=(b6.block (w.heap.size+2) (by omega)).trans hq0
     have kq6:=cell_of_row _ _ 0 _ _ (0,0) hq6
     have fq6:=frozen_of_row _ _ 0 _ _ hq6
     have hcb6:=(b6.cell (p:=⟨w3.heap.size,0,none⟩) (by show w3.heap.size<wr.heap.size;omega)).trans hcb
     go_wp2_with fail
     refine bodyPost_ret (Za rfl _ _ (w.heap.size+2) 26 _ (0,0) _ rfl (Zg (k:=0) hq6 (.slice A' zs.length c')) Tryz.underlying26 rfl (by kernel_rfl)) rfl ?_
     refine⟨A',c',by rw[HV2.o];first|(simp;done)|(simp;rfl),?_,(HBW.o.trans (b6.mono (by omega))).setCell (p:=⟨w.heap.size+2,0,none⟩) (by show w.heap.size≤w.heap.size+2;omega) _⟩
     rw[HV2.o]
     show Own _ _ _ (.slice A' (zs.map (apS ys)).length c') _
     rw[List.length_map]
     exact ((HO2.o.below b6).far_set (g:=w.heap.size+2) (k:=0) (by omega) (.slice A' zs.length c')).lower (B:=w3.heap.size+1) (B':=w.heap.size) (by omega)
 ·have hyl2:((zs.length:Int) != (ys.length:Int))=true:=by simp;omega
  have hv:V=none:=by rw[← hV,cmV,if_neg];intro h;exact hyl h.2.2.1
  have HV2:=Hd hv
  clear hso hrd hry hz hyz bw2 z2 hsu hsy hq hV hsoy hA hA2 hyl hv
  go_enter Tryz.func122,Tryz.ntmps122
  go_wp2_with fail
  try rw[hw2]
  refine HSO.o.mono ?_
  rintro e w30 ⟨rfl,b30⟩
  have z30:=b30.size
  rw[Z2.out] at z30
  have kB:=(b30.cell (p:=⟨w.heap.size,0,none⟩) (by show w.heap.size<w.heap.size+3;omega)).trans HA.o
  have kB2:=(b30.cell (p:=⟨w.heap.size+1,0,none⟩) (by show w.heap.size+1<w.heap.size+3;omega)).trans HA2.o
  clear hw2 kA kA2 HSO
  go_wp2_with fail
  refine (HSOY.o w30 (HRY.o.below (BW2.out.trans (b30.mono (by omega))) hB) (by omega)).mono ?_
  rintro e w3 ⟨rfl,b31⟩
  have b3:Below (w.heap.size+3) w2 w3:=b30.trans (b31.mono z30)
  have kC:=(b31.cell (p:=⟨w.heap.size,0,none⟩) (by show w.heap.size<w30.heap.size;omega)).trans kB
  have kC2:=(b31.cell (p:=⟨w.heap.size+1,0,none⟩) (by show w.heap.size+1<w30.heap.size;omega)).trans kB2
  have hq6:=(b3.block (w.heap.size+2) (by omega)).trans HQ.o
  have kq6:=cell_of_row _ _ 0 _ _ (0,0) hq6
  have fq6:=frozen_of_row _ _ 0 _ _ hq6
  clear b30 b31 kB kB2
  go_wp2_with fail
  refine bodyPost_ret (Za rfl _ _ (w.heap.size+2) 26 _ (0,0) _ rfl (Zg (k:=0) hq6 (.slice none 0 0)) Tryz.underlying26 rfl (by kernel_rfl)) rfl ?_
  exact⟨none,0,by rw[HV2.o];rfl,by rw[HV2.o];exact Own.nil,(BW2.out.trans (b3.mono (by omega))).setCell (p:=⟨w.heap.size+2,0,none⟩) (by show w.heap.size≤w.heap.size+2;omega) _⟩
theorem YH (zs ys:List ByteArray) (A A2:Option Addr) (cz cy B:Nat) (w:World) (hsu:Zf zs=true) (hsy:Zf ys=true) (hrd:Rds w B A (zs.map Value.string)) (hry:Rds w B A2 (ys.map Value.string)) (hB:B≤w.heap.size) :
  Calls Tryz.prog 91 #[.agg #[.slice A zs.length cz],.agg #[.slice A2 ys.length cy]] w fun e w'=>∃ A' c',e=.returned (.tuple #[.agg #[.slice A' ((cmV zs ys).getD []).length c'],.bool (cmV zs ys).isSome])∧Own w' w.heap.size 9 (.slice A' ((cmV zs ys).getD []).length c') (((cmV zs ys).getD []).map Value.string)∧Below w.heap.size w w':=by
 obtain⟨hz4,hz⟩:=ZE hsu
 obtain⟨hy4,hyz⟩:=ZE hsy
 obtain⟨w2,hw2⟩:∃ w2,((w.alloc (.cells #[.slice A zs.length cz] 26)).alloc (.cells #[.slice A2 ys.length cy] 26)).alloc (.cells #[.slice none 0 0] 26)=w2:=⟨_,rfl⟩
 have bw2:Below w.heap.size w w2:=by rw[← hw2];exact (((Below.refl _ _).alloc nlr _).alloc (by simp) _).alloc (by simp;omega) _
 have z2:w2.heap.size=w.heap.size+3:=by rw[← hw2];simp
 have hA:w2.cell? ⟨w.heap.size,0,none⟩=some (.slice A zs.length cz):=by
  rw[← hw2]
  exact ((((Below.refl (w.heap.size+1) _).alloc (by simp) _).alloc (by first|(simp;done)|(simp;omega)) _).cell (p:=⟨w.heap.size,0,none⟩) (by simp)).trans (cell_of_row _ _ 0 _ _ (0,0) (heap_alloc_new w _))
 have hA2:w2.cell? ⟨w.heap.size+1,0,none⟩=some (.slice A2 ys.length cy):=by
  rw[← hw2]
  have h1:=heap_alloc_new (w.alloc (.cells #[.slice A zs.length cz] 26)) (.cells #[.slice A2 ys.length cy] 26)
  have h2:=cell_of_row _ _ 0 _ _ (0,0) h1
  have e1:(w.alloc (.cells #[.slice A zs.length cz] 26)).heap.size=w.heap.size+1:=by simp
  rw[e1] at h2
  exact (((Below.refl (w.heap.size+2) _).alloc (by simp) _).cell (p:=⟨w.heap.size+1,0,none⟩) (by simp)).trans h2
 have hq:w2.heap[w.heap.size+2]? = some (.cells #[.slice none 0 0] 26 (0,0)):=by
  rw[← hw2]
  have:=heap_alloc_new ((w.alloc (.cells #[.slice A zs.length cz] 26)).alloc (.cells #[.slice A2 ys.length cy] 26)) (.cells #[.slice none 0 0] 26)
  simpa using this
 have hso:=ZB zs A cz B w2 (by omega) (by omega) (fun y hy=>by have:=(hz y hy).2.1;unfold maxLen;omega) (hrd.below bw2 hB)
 rw[hsu,z2] at hso
 have hsoy:=fun v (r:Rds v B A2 (ys.map Value.string)) hb=>ZB ys A2 cy B v hb (by omega) (fun y hy=>by have:=(hyz y hy).2.1;unfold maxLen;omega) r
 rw[hsy] at hsoy
 have HSO:=Hd hso;have HA:=Hd hA;have HA2:=Hd hA2;have HQ:=Hd hq;have HRD:=Hd hrd;have HRY:=Hd hry;have HZ:=Hd hz;have BW2:=Hd bw2;have Z2:=Hd z2;have HSOY:=Hd hsoy;have HSX:=Hd hsu;have HSY:=Hd hsy
 obtain⟨V,hV⟩:∃ V,cmV zs ys=V:=⟨_,rfl⟩
 rw[hV]
 have HV:=Hd hV
 have kA:=hA
 have kA2:=hA2
 by_cases hyl:zs.length=ys.length
 ·have HYL:=Hd hyl
  have hyl2:((zs.length:Int) != (ys.length:Int))=false:=by rw[hyl];simp
  clear hso hrd hry hz hyz bw2 z2 hsu hsy hq hV hsoy hA hA2 hyl
  go_enter Tryz.func91,Tryz.ntmps91
  go_wp2_with fail
  try rw[hw2]
  refine HSO.o.mono ?_
  rintro e w30 ⟨rfl,b30⟩
  have z30:=b30.size
  rw[Z2.out] at z30
  have kB:=(b30.cell (p:=⟨w.heap.size,0,none⟩) (by show w.heap.size<w.heap.size+3;omega)).trans HA.o
  have kB2:=(b30.cell (p:=⟨w.heap.size+1,0,none⟩) (by show w.heap.size+1<w.heap.size+3;omega)).trans HA2.o
  clear hw2 kA kA2 HSO
  go_wp2_with fail
  refine (HSOY.o w30 (HRY.o.below (BW2.out.trans (b30.mono (by omega))) hB) (by omega)).mono ?_
  rintro e w3 ⟨rfl,b31⟩
  have b3:Below (w.heap.size+3) w2 w3:=b30.trans (b31.mono z30)
  have kC:=(b31.cell (p:=⟨w.heap.size,0,none⟩) (by show w.heap.size<w30.heap.size;omega)).trans kB
  have kC2:=(b31.cell (p:=⟨w.heap.size+1,0,none⟩) (by show w.heap.size+1<w30.heap.size;omega)).trans kB2
  clear b30 b31 kB kB2 z30
  have z3:=b3.size
  rw[Z2.out] at z3
  have bO:Below w3.heap.size w3 (w3.alloc (.cells #[.slice none 0 0] 26)):=(Below.refl _ _).alloc nlr _
  have rO:=heap_alloc_new w3 (.cells #[.slice none 0 0] 26)
  have zO:(w3.alloc (.cells #[.slice none 0 0] 26)).heap.size=w3.heap.size+1:=by simp
  have b4:Below (w.heap.size+3) w2 (w3.alloc (.cells #[.slice none 0 0] 26)):=b3.trans (bO.mono z3)
  have hcA:=fun (v:World) (hv:Below (w.heap.size+3) w2 v)=>(hv.cell (p:=⟨w.heap.size,0,none⟩) (by show w.heap.size<w.heap.size+3;omega)).trans HA.o
  have HCA:=Hd hcA
  have hca3:=HCA.o _ b4
  have RO:=Hd rO;have B4:=Hd b4;have ZO:=Hd zO
  clear bO rO zO b4 b3 hcA
  go_wp2_with fail
  go_loopw [8,31] (fun _ i wr=>∃ (k c':Nat) (A':Option Addr),k≤zs.length∧i=.int .i64 k∧wr.heap[w3.heap.size]? = some (.cells #[.slice A' k c'] 26 (0,0))∧Own wr (w3.heap.size+1) 9 (.slice A' k c') (((zs.map (apS ys)).take k).map Value.string)∧Below (w.heap.size+3) w2 wr∧w3.heap.size+1≤wr.heap.size) (fun _ i _=>zs.length - (intOf i).toNat)
  case atStart=>exact⟨0,0,none,by omega,rfl,RO.out,Own.nil,B4.out,by rw[ZO.out];exact Nat.le_refl _⟩
  case round =>
   clear RO B4 ZO hca3
   obtain⟨k,c',A',hk,rfl,hbx,how,hbe,hsz⟩:=hrel
   have HBX:=Hd hbx;have HOW:=Hd how;have HBE:=Hd hbe
   have hcb:wr.cell? ⟨w3.heap.size,0,none⟩=some (.slice A' k c'):=cell_of_row _ _ 0 _ _ (0,0) hbx
   have hfb:wr.frozen? ⟨w3.heap.size,0,none⟩=false:=frozen_of_row _ _ 0 _ _ hbx
   have hbw:Below w.heap.size w wr:=BW2.out.trans (hbe.mono (by omega))
   have HBW:=Hd hbw
   clear hbx how hbe hbw
   by_cases hlt:k<zs.length
   ·obtain⟨x,hx⟩:=Zc (l:=zs) (k:=k) hlt
    have hxm:=List.mem_of_getElem? hx
    obtain⟨hx1,hx8,hxl⟩:=HZ.o x hxm
    have hsn:=Ja (f:=(apS ys)) hx
    obtain⟨ad,rfl,hcx⟩:=(HRD.o.below HBW.o hB).at_ (Zs Value.string hx)
    have hlt2:(k:Int)<(zs.length:Int):=by omega
    have hbox2:wr.drew.cell? ⟨w.heap.size+1,0,none⟩=some (.slice A2 ys.length cy):=((HBE.o.cell (p:=⟨w.heap.size+1,0,none⟩) (by show w.heap.size+1<w.heap.size+3;omega)).trans HA2.o);have hcl:=W6 ys A2 ys.length cy B x wr.drew rfl HSY.o (by omega) (by rw[← HYL.o];exact hxl) ((HRY.o.below HBW.o hB).dr (Dr.refl wr).drew) (by show B≤wr.heap.size;omega)
    obtain⟨y,hy⟩:∃ y,(apS ys) x=y:=⟨_,rfl⟩
    rw[hy] at hcl hsn
    have hbx0:wr.drew.heap[w3.heap.size]? = some (.cells #[.slice A' k c'] 26 (0,0)):=HBX.o
    have HCL:=Hd hcl;have HSN:=Hd hsn;have BX0:=Hd hbx0;have OW0:=Hd (HOW.o.dr (Dr.refl wr).drew)
    have hzd:wr.drew.heap.size=wr.heap.size:=by simp
    clear hcl hsn hbx0 hx hxm hy hxl
    have HKB:Hid (∀ v:World,v.heap[w3.heap.size]? = some (.cells #[.slice A' k c'] 26 (0,0))→v.cell? ⟨w3.heap.size,0,none⟩=some (.slice A' k c')):=Hd fun v h=>cell_of_row _ _ 0 _ _ (0,0) h
    have hcb0:=HKB.o _ BX0.out
    have hzm:(((zs.map (apS ys)).take k).map Value.string).length=k:=by rw[List.length_map,List.length_take,List.length_map];omega
    have HZM:=Hd hzm;clear hzm
    have hk1:k+1<4294967296:=by omega
    go_wp2_with fail
    go_region_law
     (first
      | (refine Qh rfl (.tmp 36) (.tmp 40) 23 rfl _ 16 Tryz.underlying23 Zn rfl (w3.heap.size+1) k HZM.o (by rfl) ((OW0.out.below b4).below ((Below.refl _ _).alloc nlr _)) ⟨w4.heap.size,0,none⟩ 1 1 [.string y] (by rfl) rfl (ZcB w4 _ _) (fun u hu=>by simp at hu;subst hu;rfl) (k+1) rfl hk1 (by decide) (by have:=b4.size;simp at this ⊢;omega) ?_;intro A5 cc w5 o5 g5 a5 n5;have Q5:=Hd ((ZcA ((OW0.out.below b4).below ((Below.refl _ _).alloc nlr _)) g5 (q:=w3.heap.size) (by omega) (by have:=b4.size;simp at this ⊢;omega)).trans ((((Below.refl w4.heap.size w4).alloc nlr (.cells #[.string y] 9)).block w3.heap.size (by have:=b4.size;simp at this;omega)).trans BX1.out));have f5:=frozen_of_row _ _ 0 _ _ Q5.out;have k5:=cell_of_row _ _ 0 _ _ (0,0) Q5.out)
      | (go_simp;go_wp2_with (go_at_call 171;refine HCL.o.mono ?_;rintro e w4 ⟨rfl,b4⟩;have BX1:=Hd ((b4.block w3.heap.size (by simp;omega)).trans BX0.out);have k3:=HKB.o _ BX1.out;have k4a:(w4.alloc (.cells #[.string y] 9)).cell? ⟨w3.heap.size,0,none⟩=some (.slice A' k c'):=(((Below.refl w4.heap.size w4).alloc nlr _).cell (p:=⟨w3.heap.size,0,none⟩) (by show w3.heap.size<w4.heap.size;have:=b4.size;simp at this;omega)).trans k3)))
    all_goals
     have s4:=b4.size
     rw[hzd] at s4
     have hOA:=(OW0.out.below b4).below ((Below.refl w4.heap.size w4).alloc nlr (.cells #[.string y] 9))
     have bAl:=(Below.refl w4.heap.size w4).alloc nlr (.cells #[.string y] 9)
     have zAl:(w4.alloc (.cells #[.string y] 9)).heap.size=w4.heap.size+1:=by simp
     have s5:=g5.size
     rw[zAl] at s5
     have b45:Below (w3.heap.size+1) w4 w5:=Qy (bAl.mono (by omega)) (by omega) hOA g5
     have be5:Below (w.heap.size+3) w2 w5:=(((HBE.o.drew).trans (b4.mono (by rw[hzd];omega))).trans (b45.mono (by omega)))
     rw[show ((zs.map (apS ys)).take k).map Value.string++[Value.string y]=((zs.map (apS ys)).take (k+1)).map Value.string by rw[HSN.o,List.map_append];rfl] at o5
     have HB5:=Hd (Zg (k:=0) Q5.out (.slice A5 (k+1) cc))
     have HO5:=Hd (o5.far_set (g:=w3.heap.size) (k:=0) (by omega) (.slice A5 (k+1) cc))
     have HBB:=Hd (be5.setCell (show w.heap.size+3≤w3.heap.size by omega) (p:=⟨w3.heap.size,0,none⟩) (.slice A5 (k+1) cc))
     clear hOA bAl b45 be5 o5 g5 a5 n5 f5 k5 k4a k3 b4 hcb0 hcb hfb hcx
     go_wp2_with fail
     go_roundw
     case rel=>exact⟨k+1,cc,A5,by omega,by go_num,HB5.o,HO5.o,HBB.o,by rw[World.size_setCell];omega⟩
     case measure=>simp[intOf];omega
   ·have hkm:k=zs.length:=by omega
    have hall:(zs.map (apS ys)).take k=zs.map (apS ys):=List.take_of_length_le (by rw[List.length_map];omega)
    have how2:=HOW.o
    rw[hall] at how2
    have hq0:=(HBE.o.block (w.heap.size+2) (by omega)).trans HQ.o
    have kq0:=cell_of_row _ _ 0 _ _ (0,0) hq0
    have fq0:=frozen_of_row _ _ 0 _ _ hq0
    have HO2:=Hd how2
    clear hall how2
    subst hkm
    have hlt3:¬ ((zs.length:Int)<(zs.length:Int)):=by omega
    have hso3:=ZB (zs.map (apS ys)) A' c' wr.heap.size wr nlr (by rw[List.length_map];omega) (fun y hy=>by
     obtain⟨x,hx,rfl⟩:=List.mem_map.1 hy
     have h1:=HZ.o x hx
     have:=Y7 (x:=x) HSY.o h1.2.1 (by rw[← HYL.o];exact h1.2.2)
     unfold maxLen;omega) HO2.o.reads
    rw[List.length_map] at hso3
    have HVN:=HV
    cases hb:Zf (zs.map (apS ys)) with
    | false =>
     rw[hb] at hso3
     have hv:V=none:=by rw[← HV.o,cmV,if_neg];intro h;rw[hb] at h;exact absurd h.2.2.2 (by decide)
     have HSO3:=Hd hso3;have HV2:=Hd hv
     clear hso3 hb hv
     go_wp2_with fail
     refine HSO3.o.mono ?_
     rintro e w6 ⟨rfl,b6⟩
     have hq6:=(b6.block (w.heap.size+2) (by omega)).trans hq0
     have kq6:=cell_of_row _ _ 0 _ _ (0,0) hq6
     have fq6:=frozen_of_row _ _ 0 _ _ hq6
     go_wp2_with fail
     refine bodyPost_ret (Za rfl _ _ (w.heap.size+2) 26 _ (0,0) _ rfl (Zg (k:=0) hq6 (.slice none 0 0)) Tryz.underlying26 rfl (by kernel_rfl)) rfl ?_
     exact⟨none,0,by rw[HV2.o];rfl,by rw[HV2.o];exact Own.nil,(HBW.o.trans (b6.mono (by omega))).setCell (p:=⟨w.heap.size+2,0,none⟩) (by show w.heap.size≤w.heap.size+2;omega) _⟩
    | true =>
     rw[hb] at hso3
     have hv:V=some (zs.map (apS ys)):=by rw[← HV.o,cmV,if_pos ⟨HSX.o,HSY.o,HYL.o,hb⟩]
     have HSO3:=Hd hso3;have HV2:=Hd hv
     clear hso3 hb hv
     go_wp2_with fail
     refine HSO3.o.mono ?_
     rintro e w6 ⟨rfl,b6⟩
     have hq6:=(b6.block (w.heap.size+2) (by omega)).trans hq0
     have kq6:=cell_of_row _ _ 0 _ _ (0,0) hq6
     have fq6:=frozen_of_row _ _ 0 _ _ hq6
     have hcb6:=(b6.cell (p:=⟨w3.heap.size,0,none⟩) (by show w3.heap.size<wr.heap.size;omega)).trans hcb
     go_wp2_with fail
     refine bodyPost_ret (Za rfl _ _ (w.heap.size+2) 26 _ (0,0) _ rfl (Zg (k:=0) hq6 (.slice A' zs.length c')) Tryz.underlying26 rfl (by kernel_rfl)) rfl ?_
     refine⟨A',c',by rw[HV2.o];first|(simp;done)|(simp;rfl),?_,(HBW.o.trans (b6.mono (by omega))).setCell (p:=⟨w.heap.size+2,0,none⟩) (by show w.heap.size≤w.heap.size+2;omega) _⟩
     rw[HV2.o]
     show Own _ _ _ (.slice A' (zs.map (apS ys)).length c') _
     rw[List.length_map]
     exact ((HO2.o.below b6).far_set (g:=w.heap.size+2) (k:=0) (by omega) (.slice A' zs.length c')).lower (B:=w3.heap.size+1) (B':=w.heap.size) (by omega)
 ·have hyl2:((zs.length:Int) != (ys.length:Int))=true:=by simp;omega
  have hv:V=none:=by rw[← hV,cmV,if_neg];intro h;exact hyl h.2.2.1
  have HV2:=Hd hv
  clear hso hrd hry hz hyz bw2 z2 hsu hsy hq hV hsoy hA hA2 hyl hv
  go_enter Tryz.func91,Tryz.ntmps91
  go_wp2_with fail
  try rw[hw2]
  refine HSO.o.mono ?_
  rintro e w30 ⟨rfl,b30⟩
  have z30:=b30.size
  rw[Z2.out] at z30
  have kB:=(b30.cell (p:=⟨w.heap.size,0,none⟩) (by show w.heap.size<w.heap.size+3;omega)).trans HA.o
  have kB2:=(b30.cell (p:=⟨w.heap.size+1,0,none⟩) (by show w.heap.size+1<w.heap.size+3;omega)).trans HA2.o
  clear hw2 kA kA2 HSO
  go_wp2_with fail
  refine (HSOY.o w30 (HRY.o.below (BW2.out.trans (b30.mono (by omega))) hB) (by omega)).mono ?_
  rintro e w3 ⟨rfl,b31⟩
  have b3:Below (w.heap.size+3) w2 w3:=b30.trans (b31.mono z30)
  have kC:=(b31.cell (p:=⟨w.heap.size,0,none⟩) (by show w.heap.size<w30.heap.size;omega)).trans kB
  have kC2:=(b31.cell (p:=⟨w.heap.size+1,0,none⟩) (by show w.heap.size+1<w30.heap.size;omega)).trans kB2
  have hq6:=(b3.block (w.heap.size+2) (by omega)).trans HQ.o
  have kq6:=cell_of_row _ _ 0 _ _ (0,0) hq6
  have fq6:=frozen_of_row _ _ 0 _ _ hq6
  clear b30 b31 kB kB2
  go_wp2_with fail
  refine bodyPost_ret (Za rfl _ _ (w.heap.size+2) 26 _ (0,0) _ rfl (Zg (k:=0) hq6 (.slice none 0 0)) Tryz.underlying26 rfl (by kernel_rfl)) rfl ?_
  exact⟨none,0,by rw[HV2.o];rfl,by rw[HV2.o];exact Own.nil,(BW2.out.trans (b3.mono (by omega))).setCell (p:=⟨w.heap.size+2,0,none⟩) (by show w.heap.size≤w.heap.size+2;omega) _⟩
end Go.Proofs.YtocbgldilgemoaaGreatDoor
