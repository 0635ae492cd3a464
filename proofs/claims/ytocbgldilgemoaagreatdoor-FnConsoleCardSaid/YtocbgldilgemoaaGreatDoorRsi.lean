/- A session of the program's console. Asks the shelf's text. No condition but the bounds. -/
import Derived.Test.YtocbgldilgemoaaGreatDoorCpy
import Derived.Test.YtocbgldilgemoaaGreatDoorSpi
import Derived.Test.YtocbgldilgemoaaGreatDoorRss
namespace Go.Proofs.YtocbgldilgemoaaGreatDoor
open Go.RowKit
set_option linter.unusedVariables false
theorem Zfa {l:ByteArray} (h:cmB l=false):l.size≠0∧(L l).headD 0≠35:=by
 rw[cmB,Bool.or_eq_false_iff] at h
 exact⟨of_decide_eq_false h.1,of_decide_eq_false h.2⟩
theorem ZaZ {l:ByteArray} (h:0<l.size):(L l).headD 0=l[0]:=by
 have:=ZS l 0 h
 rw[List.drop_zero] at this
 rw[this];rfl
structure SesR (B:Nat) (w:World) (R:ByteArray × Nat) (ps:List ByteArray) (gb gl cl:Nat) (k n:Nat) (zs:List ByteArray) (v out:ByteArray) (A:Option Addr) (c:Nat):Prop where
 hk:k≤ps.length
 hn:n≤40
 hnk:n≤k
 rs:rsL (ps.drop k) n zs v out=R
 hz:Zf zs=true
 hv:isW (L v)=true
 hs:out.size≤n * 200001
 row:w.heap[gb]? = some (.cells #[.slice A zs.length c,.string v] 28 (0,0))
 own:Own w B 9 (.slice A zs.length c) (zs.map Value.string)
 lines:StrAt w gl cl ps
set_option maxRecDepth 4000 in
set_option maxHeartbeats 4000000 in
theorem Jh (text:ByteArray) (ht:text.size≤1048576) (w:World) (htb:TB w) (hml:MlS w) (hes:ES w) (heg:EG w) :
  Calls Tryz.prog 11 #[.string text] w fun e w'=>e=.returned (.tuple #[.string (RS text).1,.int .i64 ((RS text).2:Nat)])∧Below w.heap.size w w':=by
 have hnb:=VM w hml
 have hps2:∀ p∈ZD 10 text,p.size≤1048576:=fun p hp=>Nat.le_trans (Z6 10 text p hp) ht
 have hle:=Qf 10 text
 have hsa:=fun w'=>ZaI text 10 ht w'
 obtain⟨ps,hps⟩:∃ ps,ZD 10 text=ps:=⟨_,rfl⟩
 obtain⟨R,hR⟩:∃ R,RS text=R:=⟨_,rfl⟩
 have hst:rsL ps 0 Vi { data:=#[97] } { data:=#[] }=R:=by rw[← hR,RS,hps]
 rw[hR]
 rw[hps] at hps2 hle hsa
 have hle9:ps.length≤1048577:=by omega
 have HNB:=Hd hnb;have HSA:=Hd hsa;have HP2:=Hd hps2;have HST:=Hd hst;have HLE:=Hd hle
 have HTB:=Hd htb;have HML:=Hd hml;have HES:=Hd hes;have HEG:=Hd heg
 clear hnb hsa hps2 hst hle hps hR htb hml hes heg ht
 go_enter Tryz.func11,Tryz.ntmps11
 go_wp2_with (go_at_call 7;refine HNB.o.mono ?_;rintro e w1 ⟨A0,c0,rfl,o0,b0⟩;have ba:=(Below.refl w1.heap.size w1).alloc nlr (.cells #[.slice A0 2 c0,.string { data:=#[97] }] 28);have r0:=heap_alloc_new w1 (.cells #[.slice A0 2 c0,.string { data:=#[97] }] 28);have o1:=o0.below ba;obtain⟨wa,hwa⟩:∃ wa,w1.alloc (.cells #[.slice A0 2 c0,.string { data:=#[97] }] 28)=wa:=⟨_,rfl⟩;have za:(w1.alloc (.cells #[.slice A0 2 c0,.string { data:=#[97] }] 28)).heap.size=w1.heap.size+1:=(by simp);rw[hwa] at ba r0 o1 za;have BA:=Hd (b0.trans (ba.mono b0.size));have R0:=Hd r0;have O1:=Hd o1;have Z1:=Hd b0.size;have ZA:=Hd za;clear ba r0 o1 o0 b0 za)
 go_wp2_with (go_at_call 29;refine (HSA.o _).mono ?_;rintro e w2 ⟨gl,cl,rfl,o2,b2⟩;clear hwa;have q2:=Hd (Own.str (ss:=ps) o2 rfl);have HGL:=Hd (World.ownsRow.lt o2 gl rfl).1;have r2:=Hd ((b2.block w1.heap.size (by have:=ZA.out;omega)).trans R0.out);have O2:=Hd (O1.out.below b2);have B2:=Hd (BA.out.trans (b2.mono (by have:=ZA.out;have:=Z1.out;omega)));clear o2)
 go_loopw [5,6,8,9,10,11,16] (fun so sn _ _ _ _ si wr=>∃ (k n:Nat) (zs:List ByteArray) (v out:ByteArray) (A:Option Addr) (c:Nat),so=.string out∧sn=.int .i64 n∧si=.int .i64 k∧SesR w.heap.size wr R ps w1.heap.size gl cl k n zs v out A c∧Below w.heap.size w wr) (fun _ _ _ _ _ _ si _=>ps.length - (intOf si).toNat)
 case atStart=>exact⟨0,0,Vi,{ data:=#[97] },{ data:=#[] },A0,c0,rfl,rfl,rfl,⟨by omega,by omega,by omega,HST.o,Zfd,ZlT,by decide,r2.out,O2.out,q2.out⟩,B2.out⟩
 case round =>
  obtain⟨k,n,zs,v,out,A,c,rfl,rfl,rfl,hS,hb⟩:=hrel
  obtain⟨hk,hn,hnk,hrs,hz,hv,hs,hrow,hown,hln⟩:=hS
  have c0:=cell_of_row _ _ 0 _ _ (0,0) hrow
  have c1:=cell_of_row _ _ 1 _ _ (0,0) hrow
  have f0:=frozen_of_row _ _ 0 _ _ hrow
  have f1:=frozen_of_row _ _ 1 _ _ hrow
  by_cases hlt:k<ps.length
  ·obtain⟨l,hl⟩:∃ l,ps[k]? = some l:=⟨ps[k],List.getElem?_eq_getElem hlt⟩
   have k0:=hln.2.2.2 k l hl
   have hd:ps.drop k=l :: ps.drop (k+1):=by
    rw[List.drop_eq_getElem_cons hlt]
    rw[List.getElem?_eq_getElem hlt] at hl
    injection hl with hl
    rw[hl]
   rw[hd] at hrs
   have hlz:l.size≤1048576:=HP2.o l (List.mem_of_getElem? hl)
   have hlt2:(k:Int)<(ps.length:Int):=by omega
   by_cases h4:n=40
   ·subst h4
    rw[Zfb] at hrs
    have HR:=Hd hrs;have HB:=Hd hb
    clear hrs hb hd hl hk hnk hz hv hrow hown hln
    go_wp2_with fail
    go_ret2
    rw[← HR.o]
    exact⟨rfl,HB.o⟩
   ·have hn1:¬ (n:Int)=40:=by omega
    cases hc:cmB l with
    | true =>
     have hn2:=YC (ps.drop (k+1)) zs v out h4 hc
     rw[hrs] at hn2
     have hs2:out.size≤(n+1) * 200001:=Nat.le_trans hs (Nat.mul_le_mul_right 200001 (Nat.le_succ n))
     have HS:=Hd (show SesR w.heap.size wr R ps w1.heap.size gl cl (k+1) (n+1) zs v out A c from ⟨by omega,by omega,by omega,hn2.symm,hz,hv,hs2,hrow,hown,hln⟩)
     have HB:=Hd hb
     by_cases h0:l.size=0
     ·have he:=J8 h0
      clear hrs hb hd hl hnk hz hv hrow hown hln hn2 hc h0
      go_wp2_with fail
      go_roundw
      case rel=>exact⟨k+1,n+1,zs,v,out,A,c,rfl,by go_num,by go_num,HS.o,HB.o⟩
      case measure=>simp[intOf];omega
     ·have he:=Jw h0
      have h1:0<l.size:=by omega
      have h2:(L l).headD 0=35:=by
       rw[cmB,Bool.or_eq_true,decide_eq_true_eq,decide_eq_true_eq] at hc
       exact hc.resolve_left h0
      rw[ZaZ h1] at h2
      have h3:((l[0].toNat:Int)==35)=true:=by rw[h2];rfl
      have h1b:(0:Int)<(l.size:Int):=by omega
      clear hrs hb hd hl hnk hz hv hrow hown hln hn2 hc h0 h2
      go_wp2_with fail
      go_roundw
      case rel=>exact⟨k+1,n+1,zs,v,out,A,c,rfl,by go_num,by go_num,HS.o,HB.o⟩
      case measure=>simp[intOf];omega
    | false =>
     have hn2:=Zfc (ps.drop (k+1)) zs v out h4 hc
     rw[hrs] at hn2
     obtain⟨h0,h1⟩:=Zfa hc
     have hp:0<l.size:=by omega
     rw[ZaZ hp] at h1
     have hg:=XQ l hz hv
     have hv4:=Zb hv
     obtain⟨hz4,hzz⟩:=ZE hz
     have hcl:=JX zs v l A c w.heap.size wr (by omega) (fun y hy=>by have:=(hzz y hy).2.1;unfold maxLen;omega) (by unfold maxLen;omega) hlz hown (HTB.o.below hb) (HML.o.below hb) (HES.o.below hb) (HEG.o.below hb)
     have hrl:RLb zs v l=(RL zs v l,true):=if_pos (by rw[Vf,hz,hv];rfl)
     obtain⟨r,hr⟩:∃ r,RL zs v l=r:=⟨_,rfl⟩
     rw[hr] at hrl hn2 hg
     rw[hrl] at hcl
     have he:=Jw h0
     have h3:((l[0].toNat:Int)==35)=false:=by
      rw[beq_eq_false_iff_ne]
      intro h
      exact h1 (UInt8.toNat_inj.1 (by have:(35:UInt8).toNat=35:=rfl;omega))
     have h1b:(0:Int)<(l.size:Int):=by omega
     have hbz:=hb.size
     have hg1:w1.heap.size<wr.heap.size:=by
      rcases Nat.lt_or_ge w1.heap.size wr.heap.size with h|h
      ·exact h
      ·rw[Array.getElem?_eq_none h] at hrow;cases hrow
     have HCL:=Hd hcl;have HG:=Hd hg;have HN2:=Hd hn2;have HB:=Hd hb;have HROW:=Hd hrow;have HLN:=Hd hln;have HSZ:=Hd hs;have HG1:=Hd hg1
     clear hcl hg hn2 hrl hr hrs hd hl hz hv hrow hown hln hc h0 h1 hs hg1
     have hrz:r.2.2.size≤200000:=HG.o.2.2.2.1
     have hoz:out.size≤8000040:=Nat.le_trans HSZ.o (Nat.le_trans (Nat.mul_le_mul_right 200001 hn) (by decide))
     have ez:({ data:=#[10] }:ByteArray).size=1:=rfl
     have n1:¬ 9223372036854775807<r.2.2.size+({ data:=#[10] }:ByteArray).size:=by rw[ez];omega
     have n2:¬ 9223372036854775807<out.size+(r.2.2++{ data:=#[10] }).size:=by rw[ByteArray.size_append,ez];omega
     have HRZ:=Hd hrz
     clear hoz hrz ez
     go_wp2_with (go_at_call 8;refine HCL.o.mono ?_;rintro e w4 ⟨A4,c4,rfl,o4,b4⟩;have b6:=(Below.refl w4.heap.size w4).alloc nlr (.cells #[.slice A4 r.1.length c4,.string r.2.1] 28);have k9:=heap_alloc_new w4 (.cells #[.slice A4 r.1.length c4,.string r.2.1] 28);obtain⟨w6,hw6⟩:∃ w6,w4.alloc (.cells #[.slice A4 r.1.length c4,.string r.2.1] 28)=w6:=⟨_,rfl⟩;rw[hw6] at b6 k9;have b46:=b4.trans (b6.mono b4.size);have row6:=(b46.block w1.heap.size HG1.o).trans HROW.o;have m0:=cell_of_row _ _ 0 _ _ (0,0) row6;have m1:=cell_of_row _ _ 1 _ _ (0,0) row6;have m2:=frozen_of_row _ _ 0 _ _ row6;have m3:=frozen_of_row _ _ 1 _ _ row6;have m4:=cell_of_row _ _ 0 _ _ (0,0) k9;have m5:=cell_of_row _ _ 1 _ _ (0,0) k9;have O6:=Hd (o4.below b6);have ROW6:=Hd row6;have B46:=Hd b46;clear o4 b6 k9 row6 b46)
     go_roundw
     case rel =>
      have hs2:(out++(r.2.2++{ data:=#[10] })).size≤(n+1) * 200001:=by
       have h1:=HSZ.o
       have h2:=HRZ.o
       have h3:(n+1) * 200001=n * 200001+200001:=Nat.succ_mul n 200001
       have h4:(out++(r.2.2++{ data:=#[10] })).size=out.size+(r.2.2.size+1):=by rw[ByteArray.size_append,ByteArray.size_append];rfl
       rw[h3,h4]
       omega
      have hO:=(O6.out.far2 (g:=w1.heap.size) (.inl HG1.o) (.slice A4 r.1.length c4) (.string r.2.1)).lower (B':=w.heap.size) hbz
      have hbl:Below w1.heap.size w6 _:=((Below.refl w1.heap.size w6).setCell (p:=⟨w1.heap.size,0,none⟩) nlr (.slice A4 r.1.length c4)).setCell (p:=⟨w1.heap.size,1,none⟩) nlr (.string r.2.1)
      refine⟨k+1,n+1,r.1,r.2.1,_,A4,c4,rfl,by go_num,by go_num,⟨by omega,by omega,by omega,HN2.o.symm,HG.o.1,HG.o.2.1,hs2,Zg (k:=1) (Zg (k:=0) ROW6.out _) _,hO,?_⟩,?_⟩
      ·have h6:=HLN.o.below B46.out
       have hne:w1.heap.size≠gl:=by have:=HGL.o;have:=ZA.out;omega
       exact⟨h6.1,h6.2.1,Nat.lt_of_lt_of_le h6.2.2.1 hbl.size,fun j s hj=>by
        rw[← h6.2.2.2 j s hj]
        simp[World.cell?,heap_setCell_other,Ne.symm hne]⟩
      ·exact (HB.o.trans (B46.out.mono hbz)).trans (hbl.mono Z1.out)
     case measure=>simp[intOf];omega
  ·have hk9:k=ps.length:=by omega
   rw[hk9,List.drop_length,XR] at hrs
   have HR:=Hd hrs;have HB:=Hd hb
   have hge:¬ (k:Int)<(ps.length:Int):=by omega
   clear hrs hb hk9 hrow hown hln hlt
   go_wp2_with fail
   go_ret2
   rw[← HR.o]
   exact⟨rfl,HB.o⟩
end Go.Proofs.YtocbgldilgemoaaGreatDoor
