/- For every slice of bytes the law FnConsole returns true; no condition; the listed variables are the library's own, tied. -/
import Derived.Test.YtocbgldilgemoaaGreatDoorFco
import Derived.Test.YtocbgldilgemoaaGreatDoorLdr
import Derived.Test.YtocbgldilgemoaaGreatDoorTie
import Derived.Test.YtocbgldilgemoaaGreatDoorCards
import Derived.Lay
import Derived.LaidMore
namespace Go.Proofs.YtocbgldilgemoaaGreatDoor.fnConsole
set_option maxRecDepth 100000
set_option maxHeartbeats 40000000
open Go.ChangeShapes Go.WideShapes Go.ChangeAt Go.RowKit
open Go.ChangeMaps (open_string shut_string)
set_option linter.unusedVariables false
theorem none_ch:ZY.toList=[110,111,110,101]:=by rw[ByteArray.toList_eq];rfl
theorem unk_ch:QJ.toList=[117,110,107,110,111,119,110,32,99,111,109,109,97,110,100]:=by rw[ByteArray.toList_eq];rfl
theorem walk (A:Option Addr) (n c:Nat) (l:List UInt8) (w:World) (hin:Zbh w A n c l) (hsh:w.ShapedOpen Tryz.prog) (hL:laidMet Tryz.prog Rows.fnConsoleRow.laid w) :
    Calls Tryz.prog 3 #[.slice A n c] w fun e w'=>e=.returned (.bool true)∧Below w.heap.size w w':=by
  have m0:=Hd (MlS.of hsh)
  have t0:=Hd (TB.of_head hL.tail.tail)
  have r0:=Hd (EG.of hL.tail.tail.tail.tail)
  have x0:=Hd (ES.of hL.tail.tail.tail.tail.tail)
  clear hsh hL
  obtain⟨hl,hnc,hcm,hrd⟩:=hin
  by_cases h1:1048576<n
  · go_enter Tryz.func3,Tryz.ntmps3
    go_wp2_with fail
    go_ret
    exact⟨rfl,Below.refl _ _⟩
  have hmk:=Zay A n c w.heap.size l w hl (by omega) hrd nlr
  have hnb:=fun w' m=>VM w' m
  have hrl:=fun zs v line A c B w' h1 h2 h3 h4 o t m e g=>JX zs v line A c B w' h1 h2 h3 h4 o t m e g
  have HMK:=Hd hmk;have HNB:=Hd hnb;have HRL:=Hd hrl
  clear hmk hnb hrl hrd hl hnc hcm
  go_enter Tryz.func3,Tryz.ntmps3
  go_wp2_with fail
  refine HMK.o.mono ?_
  rintro e w1 ⟨ps,A1,K,c1,hpk,hk1,hk8,hps,rfl,o1,b1⟩
  subst hpk
  obtain⟨gl,rfl,q1⟩:=o1.strAt (fun e=>by rw[e] at hk1;exact absurd hk1 (by decide))
  have B1:=Hd b1;have Q1:=Hd q1;have HPS:=Hd hps
  have hgl:=q1.2.2.1
  clear o1 b1 q1 hps HMK
  go_wp2_with fail
  refine (HNB.o w1 (m0.out.below B1.out)).mono ?_
  rintro e w2 ⟨A2,c2,rfl,o2,b2⟩
  have s2:=b2.size
  have hX:Bx w1.heap.size (w2.alloc (.cells #[.slice A2 2 c2,.string { data:=#[97] }] 28)) w2.heap.size Vi { data:=#[97] } A2 c2:=Bx.made (zs:=Vi) o2
  have a3:=(Below.refl w2.heap.size w2).alloc nlr (.cells #[.slice A2 2 c2,.string { data:=#[97] }] 28)
  obtain⟨w3,hw3⟩:∃ z,w2.alloc (.cells #[.slice A2 2 c2,.string { data:=#[97] }] 28)=z:=⟨_,rfl⟩
  rw[hw3] at hX a3
  have B3:=Hd (B1.out.trans ((b2.trans (a3.mono s2)).mono B1.out.size))
  have Q3:=Hd (Q1.out.below (b2.trans (a3.mono s2)))
  have HX:=Hd hX
  have hgb:w1.heap.size≤w2.heap.size:=s2
  clear o2 b2 a3 hX s2 Q1
  obtain⟨R,hR⟩:∃ R,RS (Zd (jnS 10 ps))=R:=⟨_,rfl⟩
  have hps0:ps≠[]:=fun e=>by rw[e] at hk1;exact absurd hk1 (by decide)
  have hRS:rsL ps 0 Vi { data:=#[97] } { data:=#[] }=R:=by rw[← hR,RS,Zgr 10 ps hps0 (fun x hx=>(HPS.o x hx).2)]
  have HR:=Hd hR;have HRS:=Hd hRS
  clear hR hRS hps0
  have HW3:=Hd hw3
  go_wp2_with fail
  try rw[HW3.o]
  clear hw3
  go_loopw [5,6,7,8,9,10,11,38] (fun st sw _ _ _ _ _ si wr=>∃ (k:Nat) (zs:List ByteArray) (v out tx:ByteArray) (A:Option Addr) (c:Nat),st=.string tx∧sw=.string out∧si=.int .i64 k∧tx=Zd (jnS 10 (ps.take k))∧tx.size≤101 * k∧SesR w1.heap.size wr R ps w2.heap.size gl c1 k k zs v out A c∧Below w.heap.size w wr) (fun _ _ _ _ _ _ _ si _=>ps.length - (intOf si).toNat)
  case atStart=>exact⟨0,Vi,{ data:=#[97] },{ data:=#[] },{ data:=#[] },A2,c2,rfl,rfl,rfl,rfl,by decide,⟨by omega,by omega,by omega,HRS.o,Zfd,ZlT,by decide,HX.o.row,HX.o.own,Q3.out⟩,B3.out⟩
  case round =>
    clear HX Q3 B3 HW3
    obtain⟨k,zs,v,out,tx,A,c,rfl,rfl,rfl,htx,htz,hS,hb⟩:=hrel
    obtain⟨hk,hn,hnk,hrs,hz,hv,hs,hrow,hown,hln⟩:=hS
    have c0:=box_c0 hrow
    have c1b:=box_c1 hrow
    have f0:=frozen_of_row _ _ 0 _ _ hrow
    have f1:=frozen_of_row _ _ 1 _ _ hrow
    have hg1:w2.heap.size<wr.heap.size:=by
      rcases Nat.lt_or_ge w2.heap.size wr.heap.size with h|h
      · exact h
      · rw[Array.getElem?_eq_none h] at hrow;cases hrow
    by_cases hlt:k<ps.length
    · obtain⟨l,hl⟩:∃ l,ps[k]? = some l:=⟨ps[k],List.getElem?_eq_getElem hlt⟩
      have k0:=hln.2.2.2 k l hl
      have hd:ps.drop k=l :: ps.drop (k+1):=by
        rw[List.drop_eq_getElem_cons hlt]
        rw[List.getElem?_eq_getElem hlt] at hl
        injection hl with hl
        rw[hl]
      rw[hd] at hrs
      have hlz:l.size≤100:=(HPS.o l (List.mem_of_getElem? hl)).1
      have hlt2:(k:Int)<(ps.length:Int):=by omega
      have htn:=Zku hl
      rw[← htx] at htn
      have ez:({ data:=#[10] }:ByteArray).size=1:=rfl
      -- the text grows
      obtain⟨t2,ht2,htz2,hkey⟩:∃ t2,Zd (jnS 10 (ps.take (k+1)))=t2∧t2.size≤101 * (k+1)∧((k=0∧tx++l=t2)∨(¬ k=0∧tx++{ data:=#[10] }++l=t2)):=by
        refine⟨_,rfl,?_,?_⟩
        · rw[htn]
          split
          · rw[ByteArray.size_append];omega
          · rw[ByteArray.size_append,ByteArray.size_append,ez];omega
        · by_cases hk0:k=0
          · rw[if_pos hk0] at htn;exact .inl ⟨hk0,htn.symm⟩
          · rw[if_neg hk0] at htn;exact .inr ⟨hk0,htn.symm⟩
      have n1:¬ 9223372036854775807<tx.size+l.size:=by omega
      have n2:¬ 9223372036854775807<tx.size+({ data:=#[10] }:ByteArray).size:=by rw[ez];omega
      have n3:¬ 9223372036854775807<(tx++{ data:=#[10] }).size+l.size:=by rw[ByteArray.size_append,ez];omega
      have HT2:=Hd ht2;have HTZ:=Hd htz2
      clear htn htx ht2 htz2 ez
      have hn40:¬ k=40:=by omega
      cases hc:cmB l with
      | true =>
        as_aux_lemma =>
        have hn2:=YC (ps.drop (k+1)) zs v out hn40 hc
        rw[hrs] at hn2
        have hs2:out.size≤(k+1) * 200001:=Nat.le_trans hs (Nat.mul_le_mul_right 200001 (Nat.le_succ k))
        have HS:=Hd (show SesR w1.heap.size wr R ps w2.heap.size gl c1 (k+1) (k+1) zs v out A c from ⟨by omega,by omega,by omega,hn2.symm,hz,hv,hs2,hrow,hown,hln⟩)
        have HB:=Hd hb
        by_cases h0:l.size=0
        · have he:=J8 h0
          clear hrs hb hd hl hnk hz hv hrow hown hln hn2 hc h0
          rcases hkey with ⟨hk0,he2⟩|⟨hk0,he2⟩
          all_goals
            have hk1:(0:Int)<(k:Int)∨¬ (0:Int)<(k:Int):=by omega
            first
              | (subst hk0
                 go_wp2_with fail
                 go_roundw
                 case rel=>exact⟨0+1,zs,v,out,t2,A,c,by rw[← he2],rfl,by go_num,HT2.o.symm,HTZ.o,HS.o,HB.o⟩
                 case measure=>simp[intOf];omega)
              | (have hk2:(0:Int)<(k:Int):=by omega
                 go_wp2_with fail
                 go_roundw
                 case rel=>exact⟨k+1,zs,v,out,t2,A,c,by rw[← he2],rfl,by go_num,HT2.o.symm,HTZ.o,HS.o,HB.o⟩
                 case measure=>simp[intOf];omega)
        · have he:=Jw h0
          have h1:0<l.size:=by omega
          have h2:(L l).headD 0=35:=by
            rw[cmB,Bool.or_eq_true,decide_eq_true_eq,decide_eq_true_eq] at hc
            exact hc.resolve_left h0
          rw[ZaZ h1] at h2
          have h3:((l.extract 0 1).toList==[35])=true:=by rw[ZaL h1,h2];rfl
          have h1b:(1:Int)≤(l.size:Int):=by omega
          clear hrs hb hd hl hnk hz hv hrow hown hln hn2 hc h0 h2
          rcases hkey with ⟨hk0,he2⟩|⟨hk0,he2⟩
          all_goals
            first
              | (subst hk0
                 go_wp2_with fail
                 go_roundw
                 case rel=>exact⟨0+1,zs,v,out,t2,A,c,by rw[← he2],rfl,by go_num,HT2.o.symm,HTZ.o,HS.o,HB.o⟩
                 case measure=>simp[intOf];omega)
              | (have hk2:(0:Int)<(k:Int):=by omega
                 go_wp2_with fail
                 go_roundw
                 case rel=>exact⟨k+1,zs,v,out,t2,A,c,by rw[← he2],rfl,by go_num,HT2.o.symm,HTZ.o,HS.o,HB.o⟩
                 case measure=>simp[intOf];omega)
      | false =>
        have hn2:=Zfc (ps.drop (k+1)) zs v out hn40 hc
        rw[hrs,← ByteArray.append_assoc] at hn2
        obtain⟨h0,h1⟩:=Zfa hc
        have hp:0<l.size:=by omega
        rw[ZaZ hp] at h1
        have hg:=XQ l hz hv
        have hv4:=Zb hv
        obtain⟨hz4,hzz⟩:=ZE hz
        have hcl:=HRL.o zs v l A c w1.heap.size wr (by omega) (fun y hy=>by have:=(hzz y hy).2.1;unfold maxLen;omega) (by unfold maxLen;omega) (by omega) hown (t0.out.below hb) (m0.out.below hb) (x0.out.below hb) (r0.out.below hb)
        rw[ZbE hz hv] at hcl
        unfold BnL at hcl
        obtain⟨r,hr⟩:∃ r,RL zs v l=r:=⟨_,rfl⟩
        rw[hr] at hcl hn2 hg
        obtain⟨ys,u,s⟩:=r
        simp only at hcl hn2
        obtain⟨hy,hu,hs0,hs9,hsame⟩:Zf ys=true∧isW (L u)=true∧s.size≠0∧s.size≤200000∧(s=ZY∨s=QJ→ys=zs∧u=v):=hg
        have hu4:=Zb hu
        obtain⟨hy4,hyy⟩:=ZE hy
        have hbk:=fun A4 c4 B4 w' (o:Own w' B4 9 (.slice A4 ys.length c4) (ys.map Value.string))=>V0 ys u A4 c4 _ w' nlr (by unfold maxLen;omega) (by omega) (fun y hy=>by have:=(hyy y hy).2.1;unfold maxLen;omega) o.reads
        rw[show Vf ys u=true by rw[Vf,hy,hu];rfl] at hbk
        have hfs:=fun A4 c4 B4 w' (o:Own w' B4 9 (.slice A4 zs.length c4) (zs.map Value.string))=>ZfH zs A4 c4 B4 w' hz o
        have he:=Jw h0
        have hes:=Jw hs0
        have h3:((l.extract 0 1).toList==[35])=false:=by
          rw[ZaL hp,beq_eq_false_iff_ne]
          intro h
          injection h with h
          exact h1 h
        have h1b:(1:Int)≤(l.size:Int):=by omega
        have hsz2:(out++s++{ data:=#[10] }).size≤(k+1) * 200001:=by
          have h3:(k+1) * 200001=k * 200001+200001:=Nat.succ_mul k 200001
          have h4:(out++s++{ data:=#[10] }).size=out.size+s.size+1:=by rw[ByteArray.size_append,ByteArray.size_append];rfl
          rw[h3,h4];omega
        have hoz:out.size≤8000040:=Nat.le_trans hs (Nat.le_trans (Nat.mul_le_mul_right 200001 hn) (by decide))
        have n4:¬ 9223372036854775807<out.size+s.size:=by omega
        have n5:¬ 9223372036854775807<(out++s).size+({ data:=#[10] }:ByteArray).size:=by rw[ByteArray.size_append,show ({ data:=#[10] }:ByteArray).size=1 from rfl];omega
        have HCL:=Hd hcl;have HN2:=Hd hn2;have HB:=Hd hb;have HROW:=Hd hrow;have HLN:=Hd hln;have HOWN:=Hd hown;have HBK:=Hd hbk;have HFS:=Hd hfs;have HSAME:=Hd hsame;have HYU:=Hd (And.intro hy hu);have HSZ2:=Hd hsz2;have HG1:=Hd hg1;have HKEY:=Hd hkey
        have hbz:=hb.size
        clear hcl hn2 hb hrow hln hown hbk hfs hsame hy hu hsz2 hkey hr hrs hd hl hz hv hc h0 h1 hs hs0 hyy hzz hv4 hu4 hy4 hz4 hoz hnk hn40
        go_upto_if 44 with fail
        go_cut [5] from 45 to 46 (fun s5 wx=>(∃ tx2,s5=.string tx2∧tx2++l=t2∧tx2.size≤900)∧wx=wr)
        case first=>as_aux_lemma =>
          rcases HKEY.o with ⟨hk0,he2⟩|⟨hk0,he2⟩
          · subst hk0
            go_wp2_with fail
            go_meet
            case rel=>exact⟨⟨tx,rfl,he2,by omega⟩,by first|trivial|rfl⟩
          · have hk2:(0:Int)<(k:Int):=by omega
            have hz9:(tx++{ data:=#[10] }).size≤900:=by rw[ByteArray.size_append,show ({ data:=#[10] }:ByteArray).size=1 from rfl];omega
            go_wp2_with fail
            go_meet
            case rel=>exact⟨⟨_,rfl,he2,hz9⟩,by first|trivial|rfl⟩
        case rest =>
          obtain⟨⟨tx2,rfl,het,hz9⟩,rfl⟩:=hcut
          have n1b:¬ 9223372036854775807<tx2.size+l.size:=by omega
          have HET:=Hd het
          clear n1 n2 n3 HKEY het
          go_upto_region 17 with (first
            | (go_at_call 8;refine HCL.o.mono ?_;rintro e w4 ⟨A4,c4,rfl,o4,b4⟩;have hY:=Bx.made (zs:=ys) (v:=u) o4;have a6:=(Below.refl w4.heap.size w4).alloc nlr (.cells #[.slice A4 ys.length c4,.string u] 28);obtain⟨w6,hw6⟩:∃ z,w4.alloc (.cells #[.slice A4 ys.length c4,.string u] 28)=z:=⟨_,rfl⟩;rw[hw6] at hY a6;have b46:=b4.trans (a6.mono b4.size);have ya:=hY.c0;have yb:=hY.c1;have HY6:=Hd hY;have B46:=Hd b46;clear o4 b4 a6 b46 hY)
            | (go_at_call 9;refine (HBK.o A4 c4 _ _ HY6.o.own).mono ?_;rintro e w7 ⟨rfl,b7⟩;clear hw6 ya yb c0 c1b f0 f1;have B67:=Hd b7;have hY7:=HY6.o.below b7;have B07:=Hd (B46.out.trans (b7.mono B46.out.size));have rx:=(B07.out.block w2.heap.size HG1.o).trans HROW.o;have HRX:=Hd rx;have HRY:=Hd hY7.row;have HYO:=Hd hY7.own;have HY7:=Hd hY7.lt;have xa:=box_c0 rx;have xb:=box_c1 rx;have ya:=hY7.c0;have yb:=hY7.c1;clear b7 hY7 rx))
          have HG7:=Hd (Nat.lt_of_lt_of_le HG1.o B07.out.size)
          have HOX:=Hd (fun w' (b:Below w7.heap.size w7 w')=>(HOWN.o.below B07.out).below b)
          go_cut [96] from 75 to 96 (fun cc wx=>cc=.bool false∧Below w7.heap.size w7 wx)
          case first=>as_aux_lemma =>
            by_cases hsn:s=ZY∨s=QJ
            · obtain⟨hyz,huv⟩:=HSAME.o hsn
              subst hyz huv
              have HOY:=Hd (fun w' (b:Below w7.heap.size w7 w')=>HYO.o.below b)
              have key:(s.toList==[110,111,110,101])=true∨((s.toList==[110,111,110,101])=false∧(s.toList==[117,110,107,110,111,119,110,32,99,111,109,109,97,110,100])=true):=by
                rcases hsn with h|h
                · exact .inl (by rw[h,none_ch];rfl)
                · exact .inr ⟨by rw[h,unk_ch];rfl,by rw[h,unk_ch];rfl⟩
              clear hsn
              clear he hes h3 h1b n4 n5 k0 hz9 n1b hlz hlt2 hp hn hk hlt hk1 hk8 hgl hgb
              clear HRL HCL HN2 HB HROW HLN HSZ2 HT2 HTZ HBK HSAME HYU HET HNB HR HRS HPS B1 m0 t0 r0 x0 HOWN HY6 B46 B67 B07 h1
              rcases key with e1|⟨e1,e2⟩
              all_goals
                have k1:=cell_regrown (box_c0 HRX.o)
                have k2:=cell_regrown (box_c1 HRX.o)
                have k3:=cell_regrown (box_c0 HRY.o)
                have k4:=cell_regrown (box_c1 HRY.o)
                have cx:=fun d os=>Calls.regrown_of (w:=w7) (d:=d) (os:=os) (HFS.o A c _ _ (HOX.o _ (below_regrown w7 d os)))
                have cy:=fun d os=>Calls.regrown_of (w:=w7) (d:=d) (os:=os) (HFS.o A4 c4 _ _ (HOY.o _ (below_regrown w7 d os)))
                refine wp_region_quiet_below (by kernel_rfl) (by kernel_rfl) ?_
                repeat (quiet_step (first|with_reducible exact cx _ _|with_reducible exact cy _ _))
                refine wpQuiet_nil ?_
                intro _ hw'
                obtain⟨⟨dq,osq⟩,hw''⟩:=hw'
                subst hw''
                go_wp2_with fail
                go_meet
                case rel=>exact⟨rfl,below_regrown w7 dq osq⟩
            · have e1:(s.toList==[110,111,110,101])=false:=by have:=Zr (fun h=>hsn (.inl h));rwa[none_ch] at this
              have e2:(s.toList==[117,110,107,110,111,119,110,32,99,111,109,109,97,110,100])=false:=by have:=Zr (fun h=>hsn (.inr h));rwa[unk_ch] at this
              clear hsn
              go_quiet (fail)
              go_wp2_with fail
              go_meet
              case rel=>exact⟨rfl,((Dr.refl _).drewN _).below⟩
          case rest =>
            obtain⟨rfl,b78⟩:=hcut
            obtain⟨w8,rfl⟩:∃ z:World,z=wc:=⟨_,rfl⟩
            have hX8:Bx w1.heap.size w8 w2.heap.size zs v A c:=⟨(b78.block w2.heap.size HG7.o).trans HRX.o,HOX.o _ b78⟩
            have hY8:Bx _ w8 w4.heap.size ys u A4 c4:=⟨(b78.block w4.heap.size HY7.o).trans HRY.o,HYO.o.below b78⟩
            have xa:=hX8.c0;have xb:=hX8.c1;have ya:=hY8.c0;have yb:=hY8.c1
            have f0:=frozen_of_row _ _ 0 _ _ hX8.row
            have f1:=frozen_of_row _ _ 1 _ _ hX8.row
            have B08:=Hd (B07.out.trans (b78.mono B07.out.size))
            have HX8:=Hd hX8;have HY8:=Hd hY8
            clear b78 hX8 hY8
            go_wp2_with fail
            go_roundw
            case rel =>
              have hbl:Below w2.heap.size w8 _:=((Below.refl w2.heap.size w8).setCell (p:=⟨w2.heap.size,0,none⟩) nlr (.slice A4 ys.length c4)).setCell (p:=⟨w2.heap.size,1,none⟩) nlr (.string u)
              have hO:=(HY8.o.own.far2 (g:=w2.heap.size) (.inl HG1.o) (.slice A4 ys.length c4) (.string u)).lower (B':=w1.heap.size) (by have:=HG1.o;omega)
              refine⟨k+1,ys,u,_,t2,A4,c4,by rw[← HET.o],rfl,by go_num,HT2.o.symm,HTZ.o,⟨by omega,by omega,by omega,HN2.o.symm,HYU.o.1,HYU.o.2,HSZ2.o,Zg (k:=1) (Zg (k:=0) HX8.o.row _) _,hO,?_⟩,?_⟩
              · have h6:=HLN.o.below B08.out
                have hne:w2.heap.size≠gl:=by omega
                exact⟨h6.1,h6.2.1,Nat.lt_of_lt_of_le h6.2.2.1 hbl.size,fun j s hj=>by
                  rw[← h6.2.2.2 j s hj]
                  simp[World.cell?,heap_setCell_other,Ne.symm hne]⟩
              · exact (HB.o.trans (B08.out.mono hbz)).trans (hbl.mono (Nat.le_trans B1.out.size hgb))
            case measure=>simp[intOf];omega
    · have hk9:k=ps.length:=by omega
      subst hk9
      rw[List.drop_length,XR] at hrs
      rw[List.take_length] at htx
      have hRt:RS tx=(out,ps.length):=by rw[htx,HR.o,hrs]
      have htz8:tx.size≤808:=by have:101 * ps.length≤101 * 8:=Nat.mul_le_mul_left 101 hk8;omega
      have hv4:=Zb hv
      obtain⟨hz4,hzz⟩:=ZE hz
      have hbz:=hb.size
      have hfz:=ZeS hz
      have hX:Bx w1.heap.size wr w2.heap.size zs v A c:=⟨hrow,hown⟩
      have TBF:=Hd (fun w' (b:Below wr.heap.size wr w')=>t0.out.below (hb.trans (b.mono hbz)))
      have MLF:=Hd (fun w' (b:Below wr.heap.size wr w')=>m0.out.below (hb.trans (b.mono hbz)))
      have ESF:=Hd (fun w' (b:Below wr.heap.size wr w')=>x0.out.below (hb.trans (b.mono hbz)))
      have EGF:=Hd (fun w' (b:Below wr.heap.size wr w')=>r0.out.below (hb.trans (b.mono hbz)))
      have XF:=Hd (fun w' (b:Below wr.heap.size wr w')=>hX.below b)
      have hses:=fun w' (b:Below wr.heap.size wr w')=>Jh tx (by omega) w' (TBF.out _ b) (MLF.out _ b) (ESF.out _ b) (EGF.out _ b)
      rw[hRt] at hses
      have hmany:=fun w' (b:Below wr.heap.size wr w')=>Jh (Ju 45) (by rw[VV];omega) w' (TBF.out _ b) (MLF.out _ b) (ESF.out _ b) (EGF.out _ b)
      rw[Zk2] at hmany
      have hrlx:=fun line (hl:line.size≤1048576) w' (b:Below wr.heap.size wr w')=>HRL.o zs v line A c w1.heap.size w' (by omega) (fun y hy=>by have:=(hzz y hy).2.1;unfold maxLen;omega) (by unfold maxLen;omega) hl (XF.out _ b).own (TBF.out _ b) (MLF.out _ b) (ESF.out _ b) (EGF.out _ b)
      have hs1:=hrlx { data:=#[115,104,111,119] } (by decide)
      have hs2:=hrlx ({ data:=#[115,117,98,115,116,32] }++fsV zs) (by rw[ByteArray.size_append,show ({ data:=#[115,117,98,115,116,32] }:ByteArray).size=6 from rfl];have:=hfz.1;omega)
      have hs3:=hrlx { data:=#[103,114,111,119,32,45,49] } (by decide)
      rw[ZbE hz hv,Zk3] at hs1
      rw[ZbE hz hv,ZjZ v hz] at hs2
      rw[ZbE hz hv,Zk4,show ZY={ data:=#[110,111,110,101] } from rfl] at hs3
      have hs4:=fun w' (b:Below wr.heap.size wr w')=>HRL.o [] { data:=#[] } { data:=#[115,104,111,119] } none 0 0 w' (by decide) (fun y hy=>by cases hy) (by decide) (by decide) Own.nil (TBF.out _ b) (MLF.out _ b) (ESF.out _ b) (EGF.out _ b)
      rw[Zkv] at hs4
      have hfs:=fun A4 c4 B4 w' (o:Own w' B4 9 (.slice A4 zs.length c4) (zs.map Value.string))=>ZfH zs A4 c4 B4 w' hz o
      have hsl:=fun w' (b:Below wr.heap.size wr w')=>Ji (B:=w1.heap.size) zs A zs.length c w' rfl (by omega) (fun y hy=>by have:=(hzz y hy).2.1;unfold maxLen;omega) (XF.out _ b).own (TBF.out _ b)
      unfold BnL at hs1 hs2 hs3 hs4
      simp only[List.length_nil,List.map_nil] at hs4
      simp only at hs1 hs2 hs3
      obtain⟨FZ,hFS⟩:∃ x,fsV zs=x:=⟨_,rfl⟩
      obtain⟨SL,hSL⟩:∃ x,slV zs=x:=⟨_,rfl⟩
      rw[hFS] at hs2 hfz
      rw[hSL] at hs2
      simp only[hFS] at hfs
      simp only[hSL] at hsl
      have hov:(v.size=0∧orD v={ data:=#[45] })∨(v.size≠0∧orD v=v):=by
        by_cases h:v.size=0
        · exact .inl ⟨h,if_pos h⟩
        · exact .inr ⟨h,if_neg h⟩
      obtain⟨OV,hOV⟩:∃ x,orD v=x:=⟨_,rfl⟩
      rw[hOV] at hov hs1
      have hfz1:=hfz.1
      have n6:¬ 9223372036854775807<({ data:=#[115,117,98,115,116,32] }:ByteArray).size+FZ.size:=by rw[show ({ data:=#[115,117,98,115,116,32] }:ByteArray).size=6 from rfl];omega
      have n6b:¬ 9223372036854775807<6+FZ.size:=by omega
      have HSES:=Hd hses;have HMANY:=Hd hmany;have HS1:=Hd hs1;have HS2:=Hd hs2;have HS3:=Hd hs3;have HS4:=Hd hs4;have HFS:=Hd hfs;have HSL:=Hd hsl;have HOV:=Hd hov;have HB:=Hd hb
      have hge:¬ (ps.length:Int)<(ps.length:Int):=by omega
      clear hses hmany hrlx hs1 hs2 hs3 hs4 hfs hsl hov hfz hFS hSL hOV hRt hrs htx hz hv hzz hv4 hz4 hX hb hrow hown hln htz htz8 hs hnk hk hn hlt
      go_upto_region 24 with (first
        | (go_at_call 11;refine (HSES.o _ (Below.refl _ _)).mono ?_;rintro e w3 ⟨rfl,b3⟩;clear c0 c1b f0 f1;have B3:=Hd b3;have x3:=XF.out _ b3;have xa:=x3.c0;have xb:=x3.c1;clear b3 x3)
        | (go_at_call 8;refine (HS1.o _ B3.out).mono ?_;rintro e w5 ⟨A5,c5,rfl,o5,b5⟩;clear xa xb;have hZ:=Bx.made (zs:=zs) (v:=v) o5;have a6:=(Below.refl w5.heap.size w5).alloc nlr (.cells #[.slice A5 zs.length c5,.string v] 28);obtain⟨w6,hw6⟩:∃ z,w5.alloc (.cells #[.slice A5 zs.length c5,.string v] 28)=z:=⟨_,rfl⟩;rw[hw6] at hZ a6;have B6:=Hd (B3.out.trans ((b5.trans (a6.mono b5.size)).mono B3.out.size));have HZ:=Hd hZ;have x6:=XF.out _ B6.out;have xa:=x6.c0;have xb:=x6.c1;clear o5 b5 a6 hZ x6))
      clear hw6
      go_cut [17,18,19] from 114 to 123 (fun s17 s18 s19 wx=>∃ (bv:Nat) (Av:Option Addr) (cv:Nat),s17=.pointer (some ⟨bv,0,none⟩)∧s18=.string SL∧s19=.bool true∧Below w6.heap.size w6 wx∧Bx w6.heap.size wx bv zs v Av cv)
      case first=>as_aux_lemma =>
        clear HSES HMANY HS1 HS3 HS4 HSL HOV HRL HNB HR HRS HPS B1 m0 t0 r0 x0 HB HZ B3
        have hsz6:w2.heap.size<w6.heap.size:=(XF.out _ B6.out).lt
        have D0:Below w6.heap.size w6 w6.drew:=(Below.refl _ _).drew
        have D1a:Below w6.heap.size w6 (w6.alloc (.cells #[.slice none 0 0,.string { data:=#[] }] 28)):=(Below.refl _ _).alloc nlr _
        have D1:Below w6.heap.size w6 (w6.alloc (.cells #[.slice none 0 0,.string { data:=#[] }] 28)).drew:=D1a.drew
        have xq1:=XF.out _ (B6.out.trans (D1a.mono B6.out.size));have xa1:=xq1.c0;have xb1:=xq1.c1;clear xq1
        have HBF:=Hd (fun w' (b:Below w6.heap.size w6 w')=>B6.out.trans (b.mono B6.out.size))
        have R6:=Hd (heap_alloc_new w6 (.cells #[.slice none 0 0,.string { data:=#[] }] 28))
        have HD0:=Hd D0;have HD1:=Hd D1
        clear D0 D1 D1a
        go_region_held3 (fun w'=>w'.cell? ⟨w2.heap.size,0,none⟩=some (.slice A zs.length c)∧w'.cell? ⟨w2.heap.size,1,none⟩=some (.string v)) (first|with_reducible exact (XF.out _ (HBF.o _ ((G8.out.setCell (p:=⟨w6.heap.size,0,none⟩) nlr _).setCell (p:=⟨w6.heap.size,1,none⟩) nlr _))).cc|with_reducible exact (XF.out _ (HBF.o _ ((G8.out.setCell (p:=⟨w7.heap.size,0,none⟩) B7.out.size _).setCell (p:=⟨w7.heap.size,1,none⟩) B7.out.size _))).cc|with_reducible exact (XF.out _ (HBF.o _ (G8.out.trans (((Below.refl w8.heap.size w8).alloc nlr _).mono G8.out.size)))).cc|with_reducible exact (XF.out _ (HBF.o _ G8.out)).cc|with_reducible exact (XF.out _ (HBF.o _ E7.out)).cc|with_reducible exact (XF.out _ (HBF.o _ B7.out)).cc|with_reducible exact (XF.out _ (HBF.o _ HD1.o)).cc|with_reducible exact (XF.out _ (HBF.o _ HD0.o)).cc|go_keep) (first
          | (go_at_call 10;first
            | ((with_reducible refine (HFS.o A c _ _ (XF.out _ (HBF.o _ HD0.o)).own).mono ?_);rintro e w7 ⟨rfl,b7⟩;have B7:=Hd (HD0.o.trans b7);have xq:=XF.out _ (HBF.o _ B7.out);have xa2:=xq.c0;have xb2:=xq.c1;have E7:=Hd (B7.out.trans (((Below.refl w7.heap.size w7).alloc nlr (.cells #[.slice none 0 0,.string { data:=#[] }] 28)).mono B7.out.size));have xq2:=XF.out _ (HBF.o _ E7.out);have xa3:=xq2.c0;have xb3:=xq2.c1;have RX:=Hd (heap_alloc_new w7 (.cells #[.slice none 0 0,.string { data:=#[] }] 28));clear xq xq2 b7)
            | ((with_reducible refine (HFS.o A c _ _ (XF.out _ (HBF.o _ HD1.o)).own).mono ?_);rintro e w7 ⟨rfl,b7⟩;have b7z:=b7.size;have b7y:w6.heap.size+1≤w7.heap.size:=(by simpa using b7z);have B7:=Hd (HD1.o.trans (b7.mono (by simp)));have RX:=Hd ((b7.block w6.heap.size (by simp)).trans R6.out);have xq:=XF.out _ (HBF.o _ B7.out);have xa2:=xq.c0;have xb2:=xq.c1;clear xq b7))
          | (go_at_call 8;first
            | ((with_reducible refine (HS2.o _ (HBF.o _ B7.out)).mono ?_);rintro e w8 ⟨A8,c8,rfl,o8,b8⟩;have G8:=Hd (B7.out.trans (b8.mono B7.out.size));have O8:=Hd o8;first|(have R8:=(b8.block w6.heap.size (by omega)).trans RX.out;have m0:=box_c0 R8;have m1:=box_c1 R8;have m2:=frozen_of_row _ _ 0 _ _ R8;have m3:=frozen_of_row _ _ 1 _ _ R8;have HR8:=Hd R8;clear R8)|skip;clear o8 b8)
            | ((with_reducible refine (HS2.o _ (HBF.o _ E7.out)).mono ?_);rintro e w8 ⟨A8,c8,rfl,o8,b8⟩;have b8z:=b8.size;have b8y:w7.heap.size+1≤w8.heap.size:=(by simpa using b8z);have G8:=Hd (E7.out.trans (b8.mono E7.out.size));have O8:=Hd o8;have R8:=(b8.block w7.heap.size (by simp)).trans RX.out;have m0:=box_c0 R8;have m1:=box_c1 R8;have m2:=frozen_of_row _ _ 0 _ _ R8;have m3:=frozen_of_row _ _ 1 _ _ R8;have HR8:=Hd R8;clear R8 o8 b8)))
        all_goals
          go_wp2_with fail
          go_meet
          case rel =>
            have h7:=B7.out.size
            have h8:=G8.out.size
            first
              | exact⟨w8.heap.size,A8,c8,rfl,rfl,rfl,G8.out.trans (((Below.refl w8.heap.size w8).alloc nlr _).mono h8),⟨heap_alloc_new _ _,(O8.out.lower (by first|omega|(simp;done)|(simp;omega))).below ((Below.refl _ _).alloc nlr _)⟩⟩
              | exact⟨w6.heap.size,A8,c8,rfl,rfl,rfl,(G8.out.setCell (p:=⟨w6.heap.size,0,none⟩) nlr _).setCell (p:=⟨w6.heap.size,1,none⟩) nlr _,⟨Zg (k:=1) (Zg (k:=0) HR8.o _) _,(O8.out.far2 (g:=w6.heap.size) (.inl (by first|omega|(simp;done)|(simp;omega))) _ _).lower (by first|omega|(simp;done)|(simp;omega))⟩⟩
              | exact⟨w7.heap.size,A8,c8,rfl,rfl,rfl,(G8.out.setCell (p:=⟨w7.heap.size,0,none⟩) h7 _).setCell (p:=⟨w7.heap.size,1,none⟩) h7 _,⟨Zg (k:=1) (Zg (k:=0) HR8.o _) _,(O8.out.far2 (g:=w7.heap.size) (.inl (by first|omega|(simp;done)|(simp;omega))) _ _).lower (by first|omega|(simp;done)|(simp;omega))⟩⟩
      case rest =>
        obtain⟨bv,Av,cv,rfl,rfl,rfl,b67,hV⟩:=hcut
        obtain⟨w7,rfl⟩:∃ z:World,z=wc:=⟨_,rfl⟩
        have B7:=Hd (B6.out.trans (b67.mono B6.out.size))
        have HZ7:=Hd (HZ.o.below b67)
        have HV7:=Hd hV
        clear xa xb b67 hV HZ B6 B3
        have x7:=XF.out _ B7.out;have xa:=x7.c0;have xb:=x7.c1
        clear x7
        go_wp2_with (go_at_call 8;refine (HS3.o _ B7.out).mono ?_;rintro e w8 ⟨A8,c8,rfl,o8,b8⟩;have hU:=Bx.made (zs:=zs) (v:=v) o8;have a9:=(Below.refl w8.heap.size w8).alloc nlr (.cells #[.slice A8 zs.length c8,.string v] 28);obtain⟨w9,hw9⟩:∃ z,w8.alloc (.cells #[.slice A8 zs.length c8,.string v] 28)=z:=⟨_,rfl⟩;rw[hw9] at hU a9;have b79:=b8.trans (a9.mono b8.size);have B9:=Hd (B7.out.trans (b79.mono B7.out.size));have HU9:=Hd hU;have HZ9:=Hd (HZ7.o.below b79);have HV9:=Hd (HV7.o.below b79);clear o8 b8 a9 hU b79 xa xb)
        clear hw9
        go_loop [23,24] (fun sm si=>∃ i:Nat,i≤45∧sm=.string (Ju i)∧si=.int .i64 i) (fun _ si=>45 - (intOf si).toNat)
        case atStart=>exact⟨0,by omega,rfl,rfl⟩
        case round =>
          obtain⟨i,hi,rfl,rfl⟩:=hrel
          by_cases hi45:i<45
          · have hi2:(i:Int)<45:=by omega
            have hmz:=VV i
            have hms:Ju (i+1)=Ju i++{ data:=#[35,32,120,10] }:=rfl
            obtain⟨mg,hmg⟩:∃ x,Ju i=x:=⟨_,rfl⟩
            rw[hmg] at hmz hms ⊢
            have n7:¬ 9223372036854775807<mg.size+({ data:=#[35,32,120,10] }:ByteArray).size:=by rw[show ({ data:=#[35,32,120,10] }:ByteArray).size=4 from rfl];omega
            have HMS:=Hd hms
            clear hms hmg hmz
            go_wp2_with fail
            go_round
            case rel=>exact⟨i+1,by omega,by rw[HMS.o],by go_num⟩
            case measure=>simp[intOf];omega
          · have hi9:i=45:=by omega
            subst hi9
            have hi2:decide ((45:Int)<45)=false:=by decide
            have HBX:=Hd (fun w' (b:Below w9.heap.size w9 w')=>XF.out _ (B9.out.trans (b.mono B9.out.size)))
            have HBZ:=Hd (fun w' (b:Below w9.heap.size w9 w')=>HZ9.o.below b)
            have HBV:=Hd (fun w' (b:Below w9.heap.size w9 w')=>HV9.o.below b)
            have HBU:=Hd (fun w' (b:Below w9.heap.size w9 w')=>HU9.o.below b)
            have HB9:=Hd (fun w' (b:Below w9.heap.size w9 w')=>B9.out.trans (b.mono B9.out.size))
            have hmn:=HMANY.o _ B9.out
            obtain⟨mg,hmg⟩:∃ x,Ju 45=x:=⟨_,rfl⟩
            rw[hmg] at hmn ⊢
            have HMN:=Hd hmn
            have hcase:(OV=v∧(OV.toList==v.toList)=true)∨(v={ data:=#[] }∧OV={ data:=#[45] }):=by
              rcases HOV.o with ⟨h1,h2⟩|⟨h1,h2⟩
              · exact .inr ⟨Zfi h1,h2⟩
              · exact .inl ⟨h2,by rw[h2];exact beq_self_eq_true _⟩
            clear hmn hmg HMANY HOV
            rcases hcase with ⟨hov,hoe⟩|⟨hv0,hov⟩
            · as_aux_lemma =>
              subst hov
              go_wp2_with fail
              refine HMN.o.mono ?_
              rintro e w10 ⟨rfl,b10⟩
              have C10:=Hd b10
              clear b10
              go_wp2_with fail
              refine (HS4.o _ (HB9.o _ C10.out)).mono ?_
              rintro e w11 ⟨A11,c11,rfl,o11,b11⟩
              have a12:=(Below.refl w11.heap.size w11).alloc nlr (.cells #[.slice A11 0 c11,.string { data:=#[] }] 28)
              have C12:=Hd (C10.out.trans ((b11.trans (a12.mono b11.size)).mono C10.out.size))
              clear b11 a12 o11
              go_upto_region 33 with fail
              simp only[List.append_eq,List.cons_append,List.nil_append]
              have L0:=C12.out
              have LL:=fun d os=>L0.trans ((below_regrown (w11.alloc (.cells #[.slice A11 0 c11,.string { data:=#[] }] 28)) d os).mono L0.size)
              have k1:=cell_regrown (HBX.o _ L0).c0;have k2:=cell_regrown (HBX.o _ L0).c1
              have k3:=cell_regrown (HBZ.o _ L0).c1
              have k4:=cell_regrown (HBV.o _ L0).c0;have k5:=cell_regrown (HBV.o _ L0).c1
              have k6:=cell_regrown (HBU.o _ L0).c1
              have cx:=fun d os=>Calls.regrown_of (d:=d) (os:=os) (HFS.o Av cv _ _ (HBV.o _ (LL d os)).own)
              have cy:=fun d os=>Calls.regrown_of (d:=d) (os:=os) (HFS.o A c _ _ (HBX.o _ (LL d os)).own)
              have cz:=fun d os=>Calls.regrown_of (d:=d) (os:=os) (HSL.o _ (HB9.o _ (LL d os)))
              have LE:=Hd (fun d os=>HB.o.trans ((HB9.o _ (LL d os)).mono HB.o.size))
              have HLL:=Hd LL
              clear LL
              refine wp_region_quiet_below (by kernel_rfl) (by kernel_rfl) ?_
              repeat ((with_reducible refine wpQuiet_step (fun K hK=>?_));go_simp;first|(refine hK _ ?_;clear hK K)|(apply Exists.intro;refine⟨fun _=>?_,hK _ ?_⟩;(first|with_reducible exact cx _ _|with_reducible exact cy _ _|with_reducible exact cz _ _);clear hK K))
              refine wpQuiet_nil ?_
              intro _ hw'
              obtain⟨⟨dq,osq⟩,hw''⟩:=hw'
              subst hw''
              go_wp2_with fail
              go_ret
              exact⟨rfl,LE.out dq osq⟩
            · as_aux_lemma =>
              subst hv0;subst hov
              go_wp2_with fail
              refine HMN.o.mono ?_
              rintro e w10 ⟨rfl,b10⟩
              have C10:=Hd b10
              clear b10
              go_wp2_with fail
              refine (HS4.o _ (HB9.o _ C10.out)).mono ?_
              rintro e w11 ⟨A11,c11,rfl,o11,b11⟩
              have a12:=(Below.refl w11.heap.size w11).alloc nlr (.cells #[.slice A11 0 c11,.string { data:=#[] }] 28)
              have C12:=Hd (C10.out.trans ((b11.trans (a12.mono b11.size)).mono C10.out.size))
              clear b11 a12 o11
              go_upto_region 33 with fail
              simp only[List.append_eq,List.cons_append,List.nil_append]
              have L0:=C12.out
              have LL:=fun d os=>L0.trans ((below_regrown (w11.alloc (.cells #[.slice A11 0 c11,.string { data:=#[] }] 28)) d os).mono L0.size)
              have k1:=cell_regrown (HBX.o _ L0).c0;have k2:=cell_regrown (HBX.o _ L0).c1
              have k3:=cell_regrown (HBZ.o _ L0).c1
              have k4:=cell_regrown (HBV.o _ L0).c0;have k5:=cell_regrown (HBV.o _ L0).c1
              have k6:=cell_regrown (HBU.o _ L0).c1
              have cx:=fun d os=>Calls.regrown_of (d:=d) (os:=os) (HFS.o Av cv _ _ (HBV.o _ (LL d os)).own)
              have cy:=fun d os=>Calls.regrown_of (d:=d) (os:=os) (HFS.o A c _ _ (HBX.o _ (LL d os)).own)
              have cz:=fun d os=>Calls.regrown_of (d:=d) (os:=os) (HSL.o _ (HB9.o _ (LL d os)))
              have LE:=Hd (fun d os=>HB.o.trans ((HB9.o _ (LL d os)).mono HB.o.size))
              have HLL:=Hd LL
              clear LL
              refine wp_region_quiet_below (by kernel_rfl) (by kernel_rfl) ?_
              repeat ((with_reducible refine wpQuiet_step (fun K hK=>?_));go_simp;first|(refine hK _ ?_;clear hK K)|(apply Exists.intro;refine⟨fun _=>?_,hK _ ?_⟩;(first|with_reducible exact cx _ _|with_reducible exact cy _ _|with_reducible exact cz _ _);clear hK K))
              refine wpQuiet_nil ?_
              intro _ hw'
              obtain⟨⟨dq,osq⟩,hw''⟩:=hw'
              subst hw''
              go_wp2_with fail
              go_ret
              exact⟨rfl,LE.out dq osq⟩
theorem lifted (os:Os) (started:os.Started) (H:Type) (enc:TypeId × Value→H) :
    ReturnsInHanded {} Tryz.checked os 3 .any (fun w args=>(Rows.fnConsoleSpec.pre enc Tryz.prog Tryz.f3 [] false w args∧laidMetH Tryz.prog Rows.fnConsoleRow.laid w)∧sizedMet enc Tryz.prog Tryz.f3 (OpenSpec.ofChange Rows.fnConsoleSpec) false w args) (Rows.fnConsoleSpec.post enc Tryz.prog Tryz.f3 false true false false):=by
  refine QR (C:=Tryz.checked) (X:=fun w _=>laidMetH Tryz.prog Rows.fnConsoleRow.laid w) (fun _ _ _ hh h=>h.of_heap hh) own started (by kernel_rfl) Tryz.func3
    (ChangeSpec.witness_shaped (enc:=enc) (C:=Tryz.checked) (os:=os) (X:=fun w _=>laidMetH Tryz.prog Rows.fnConsoleRow.laid w) false (World.laidAll Tryz.prog os Rows.fnConsoleRow.laid) #[.slice none 0 0] 8 (World.laidAll_os _ _ _)
      (World.shaped_of_ZipB (by kernel_rfl) (by kernel_rfl)) (by kernel_rfl) (by kernel_rfl) (by kernel_rfl)
      (by rw[MakeChecks.laidMetH_plain _ _ _ (by kernel_rfl)];exact laidMet_laidAll _ (by kernel_rfl) (by kernel_rfl))) ?_
  intro W base args ds gs before hval0 hW hL hsh
  rw[MakeChecks.laidMetH_plain _ _ _ (by kernel_rfl)] at hL
  have hval:∀ (j:Nat) t v,Tryz.f3.params[j]? = some t→args[j]? = some v→Value.okWide Tryz.prog W .any base t v:=hval0
  have hW':=hW
  obtain⟨p,q,hA0,hV,rfl,hfz,hnd⟩:=hW
  have hA:DataW.TrodAll enc Tryz.prog W 0 (fun _=>true) true Tryz.f3.params.toList args.toList ds p:=hA0
  rw[Tryz.params3] at hA hval
  obtain⟨v0,vs0,d0,ds0,p0,q0,hargs,rfl,rfl,h0,r0⟩:=trodAll_cons hA
  obtain⟨rfl,rfl,rfl⟩:=trodAll_nil r0
  obtain rfl:args=#[v0]:=by cases args;simp_all
  obtain⟨rfl,rfl⟩:=trodVars_none hV
  obtain⟨s0,len0,cap0,rfl⟩:=okWide_slice Tryz.underlying22 (hval 0 22 v0 rfl rfl)
  have k0:=h0
  have lt0:∀ x∈p0,x.block<W.heap.size:=by obtain⟨m,hm⟩:=k0;exact DataW.trod_lt m _ _ _ hm
  obtain⟨z0,w0⟩:∃ zs,Zbh W s0 len0 cap0 zs:=ZhL Tryz.underlying22 Tryz.underlying5 (by kernel_rfl) h0 lt0
  clear hA0 hval0
  refine (walk s0 len0 cap0 z0 W w0 hsh hL).mono fun e W' ⟨he,bel⟩=>?_
  subst he
  exact⟨_,rfl,_,_,_,[],_,[],hW',trodAll_mk1 (shut_bool Tryz.underlying4 _),(trodAll_cons_mk (Below.trod Zfq (by kernel_rfl) (of_decide_eq_true (by kernel_rfl)) k0 bel lt0) trodAll_mk0),rfl,bel.frame _,fun h=>by cases h⟩
theorem closed:joinedFacts Tryz.pinned.checked.prog 3 Tryz.f3 Rows.fnConsoleSpec Rows.fnConsoleRow=true:=by
  unfold joinedFacts
  simp only[Bool.and_eq_true]
  repeat' apply And.intro
  all_goals (as_aux_lemma=>kernel_rfl)
theorem over:Rows.fnConsoleRow.holds Tryz.pinned (OpenSpec.ofChange Rows.fnConsoleSpec) :=
  OpenClaim.holds_of_wide 3 Tryz.f3 rfl rfl rfl rfl rfl rfl rfl ⟨rfl,rfl,rfl,rfl,rfl⟩ rfl rfl rfl rfl rfl (by as_aux_lemma=>kernel_rfl) Tryz.func3 closed
    (of_decide_eq_true (by kernel_rfl)) (by unfold Func.isWrapper;first|(rw[if_pos (by decide +kernel)];kernel_rfl)|(rw[if_neg (by decide +kernel)];exact⟨rfl,rfl⟩))
    (fun os started H enc _=>lifted os started H enc)
theorem proved:Rows.FnConsoleCardSaid :=
  Claim7.holds_tied_plain_at .later [] _ true _ _ over (fun _ h=>by cases h) (by as_aux_lemma=>kernel_rfl) (fun _ h=>by cases h) fnConsole_row_tie rfl ⟨rfl,rfl⟩ (by as_aux_lemma=>kernel_rfl) rfl
    (fun f fn hf hfn=>by
      obtain rfl : f = 3 := Option.some.inj ((show Tryz.prog.funcNamed "loop.example/g03209/laws.FnConsole" = some 3 by as_aux_lemma => kernel_rfl).symm.trans hf) |>.symm
      obtain rfl:fn=Tryz.f3:=(Option.some.inj (Tryz.func3.symm.trans hfn)).symm
      exact⟨by as_aux_lemma=>kernel_rfl,fun j t ht=>by
        rw[Tryz.params3] at ht
        have hm:t∈[22]:=by simpa using Array.mem_of_getElem? ht
        have hall:([22].all fun u=>!Tryz.prog.wantsStandIn u)=true:=by as_aux_lemma=>kernel_rfl
        exact (show Tryz.prog.wantsStandIn t=false by simpa using List.all_eq_true.1 hall t hm)⟩)
    (by as_aux_lemma=>kernel_rfl)
#print axioms proved
end Go.Proofs.YtocbgldilgemoaaGreatDoor.fnConsole
