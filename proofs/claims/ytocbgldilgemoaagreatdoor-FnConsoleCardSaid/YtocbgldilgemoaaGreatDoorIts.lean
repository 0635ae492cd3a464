/- ApplySubst and IterateSubst of the reference. No condition but the bounds. -/
import Derived.Test.YtocbgldilgemoaaGreatDoorItw
namespace Go.Proofs.YtocbgldilgemoaaGreatDoor
set_option maxRecDepth 4000
set_option maxHeartbeats 2000000
open Go.RowKit
set_option linter.unusedVariables false
theorem BR.conv_reads {w:World} {E:TypeId} {s:ByteArray} (hs:s.size≤maxLen):Rds (Lib.bytesWorld w E s) (w.heap.size+1) (some ⟨w.heap.size,0,none⟩) (byV (L s)):=(BR.conv w E s hs).reads
theorem Zly (w:World) (E:TypeId):BR (w.alloc (.cells #[] E)) w.heap.size E w.heap.size 0 []:=BR.ofOwn (v:=.slice none 0 0) (Own.empty nlr) rfl
theorem J2 (zs:List ByteArray) (A:Option Addr) (nz cz B:Nat) (x:ByteArray) (w:World) (hl:zs.length=nz) (hsu:Zf zs=true) (hx:x.size≤1000) (hlet:Qs zs.length (L x)) (hrd:Rds w B A (zs.map Value.string)) (hB:B≤w.heap.size) :
  Calls Tryz.prog 171 #[.agg #[.slice A nz cz],.string x] w fun e w'=>∃ u,e=.returned (.string u)∧u.size≤408∧((apS zs x).size≤400→u=apS zs x)∧(400<(apS zs x).size→400<u.size)∧Below w.heap.size w w':=by
 obtain⟨hz4,hz⟩:=ZE hsu
 have bA:Below w.heap.size w (w.alloc (.cells #[.slice A nz cz] 26)):=(Below.refl _ _).alloc nlr _
 have zA:(w.alloc (.cells #[.slice A nz cz] 26)).heap.size=w.heap.size+1:=by simp
 have h0:=cell_of_row _ _ 0 _ _ (0,0) (heap_alloc_new w (.cells #[.slice A nz cz] 26))
 have bB:Below w.heap.size w ((w.alloc (.cells #[.slice A nz cz] 26)).alloc (.cells #[] 5)):=bA.alloc (by omega) _
 have k0:((w.alloc (.cells #[.slice A nz cz] 26)).alloc (.cells #[] 5)).cell? ⟨w.heap.size,0,none⟩=some (.slice A nz cz):=(((Below.refl _ _).alloc nlr _).cell (p:=⟨w.heap.size,0,none⟩) (by show w.heap.size<_;omega)).trans h0
 have br0:=Zly (w.alloc (.cells #[.slice A nz cz] 26)) 5
 have z0:((w.alloc (.cells #[.slice A nz cz] 26)).alloc (.cells #[] 5)).heap.size=w.heap.size+2:=by simp
 have hi8:∀ (d:UInt8),97≤d.toNat→d.toNat<97+zs.length→(QO zs d).size≤8:=fun d h1 h2=>(hz _ (Zfp hsu h1 h2)).2.1
 have hfin:Zd (apL zs (L x))=apS zs x:=rfl
 have hsz9:=Vo zs x
 rw[zA] at br0
 have H0:=Hd k0;have BR0:=Hd br0;have HRD:=Hd hrd;have HLET:=Hd hlet;have HI8:=Hd hi8;have HFIN:=Hd hfin;have HS9:=Hd hsz9;have HL:=Hd hl
 rw[hl] at hz4
 clear h0 k0 br0 hrd hlet hi8 hz hsu hfin hsz9 hl
 go_enter Tryz.func171,Tryz.ntmps171
 go_wp2_with fail
 go_loopw [5,6] (fun b i wr=>∃ (k g m c:Nat) (l:List UInt8),k≤x.size∧i=.int .i64 k∧b=.slice (some ⟨g,0,none⟩) m c∧l.length=m∧m≤408∧l++apL zs ((L x).drop k)=apL zs (L x)∧BR wr (w.heap.size+1) 5 g c l∧wr.cell? ⟨w.heap.size,0,none⟩=some (.slice A nz cz)∧w.heap.size+2≤wr.heap.size∧Below w.heap.size w wr) (fun _ i _=>x.size - (intOf i).toNat)
 case atStart=>exact⟨0,w.heap.size+1,0,0,[],by omega,rfl,rfl,rfl,by omega,rfl,BR0.out,H0.o,by omega,bB⟩
 case round =>
  obtain⟨k,g,m,c,l,hk,rfl,rfl,hm,hm8,hap,hbr,hbox,hsz,hbel⟩:=hrel
  have HAP:=Hd hap;have HM:=Hd hm
  clear hap hm
  by_cases hgo:k<x.size∧m≤400
  ·obtain⟨hlt,hm4⟩:=hgo
   obtain⟨d,hd⟩:∃ d,x[k]'hlt=d:=⟨_,rfl⟩
   have hdd:=ZS x k hlt
   rw[hd] at hdd
   have hmem:(L x)[k]? = some d:=by
    have:=congrArg List.head? hdd
    rw[List.head?_drop] at this;exact this
   obtain⟨hd1,hd2⟩:=Zdw HLET.o hmem
   have hap2:l++(L (QO zs d)++apL zs ((L x).drop (k+1)))=apL zs (L x):=by rw[← HAP.o,hdd,VX]
   have hy8:=HI8.o d hd1 hd2
   obtain⟨j,hj,hzj⟩:=JA hd1 hd2
   have hrd2:=(HRD.o.below hbel hB).dr (Dr.refl wr).drew
   obtain⟨ad,hA,hcz⟩:=hrd2.at_ (Zs Value.string hzj)
   have hjn:j<nz:=by have:=(List.getElem?_eq_some_iff.1 hzj).1;rw[HL.o] at this;exact this
   obtain⟨y,hy⟩:∃ y,QO zs d=y:=⟨_,rfl⟩
   rw[hy] at hcz hy8 hap2
   have hdq:IntKind.u8.wrap ((d.toNat:Int) - 97)=(j:Int):=by rw[IntWalk.u8_in _ (by omega)];omega
   have hjn2:(j:Int)<(nz:Int):=by omega
   have hj0:(0:Int)≤(j:Int):=by omega
   have hlt2:(k:Int)<(x.size:Int):=by omega
   have hm42:(m:Int)≤400:=by omega
   have hk0:(0:Int)≤(k:Int):=by omega
   have hcv:∀ v:World,(convert 9 22 (.string y)).run Tryz.prog v=.ok (.slice (some ⟨v.heap.size,0,none⟩) y.size (grownCap v y.size 0 5)) (Lib.bytesWorld v 5 y) :=
    fun v=>Lib.run_convert_string_bytes v _ _ _ y Tryz.underlying9 Tryz.underlying22 Tryz.underlying5
   have hbox2:wr.drew.cell? ⟨w.heap.size,0,none⟩=some (.slice A nz cz):=hbox
   have hbr2:=hbr.dr (Dr.refl wr).drew
   have hbr3:=hbr2.below (Lib.bytesWorld_below wr.drew 5 y)
   have hrd3:=BR.conv_reads (w:=wr.drew) (E:=5) (s:=y) (by unfold maxLen;omega)
   have hlim:m+y.size≤4294967296:=by omega
   have hBs:w.heap.size+1≤(Lib.bytesWorld wr.drew 5 y).heap.size:=by rw[Lib.bytesWorld_size];show w.heap.size+1≤wr.heap.size+1;omega
   have bby:Below wr.heap.size wr (Lib.bytesWorld wr.drew 5 y):=((Dr.refl wr).drew.below).trans (Lib.bytesWorld_below wr.drew 5 y)
   have HBR:=Hd hbr3;have HRD3:=Hd hrd3;have HA2:=Hd hap2;have HBB:=Hd bby;have HBL:=Hd hbel
   subst hA
   clear hbr hbr2 hbr3 hrd2 hrd3 hap2 bby hmem hdd hy hd1 hd2 hzj hj hbel
   go_wp2_with fail
   go_region_law (refine Vb rfl (.tmp 19) (.tmp 28) 22 rfl Tryz.underlying22 ZQ m (by rfl) HBR.o (L y) ⟨wr.drew.heap.size,0,none⟩ y.size _ (by rfl) HRD3.o (Zj y) HM.o hlim hBs ?_;intro g' c' w5 br5 bl5)
   all_goals
    have hb5:Below (w.heap.size+1) wr w5:=(HBB.o.mono (by omega)).trans bl5
    have hbox3:=(hb5.cell (p:=⟨w.heap.size,0,none⟩) (by show w.heap.size<w.heap.size+1;omega)).trans hbox
    have z5:=bl5.size
    have HB5:=Hd hb5;have HX3:=Hd hbox3;have BR5:=Hd br5
    clear hb5 hbox3 hbox hbox2 br5 bl5 hcv hcz
    go_wp2_with fail
    go_roundw
    case rel=>exact⟨k+1,g',m+y.size,c',l++L y,by omega,by go_num,rfl,by rw[List.length_append,HM.o,Zj],by omega,by rw[List.append_assoc];exact HA2.o,BR5.out,HX3.o,Nat.le_trans hsz HB5.o.size,HBL.o.trans (HB5.o.mono (by omega))⟩
    case measure=>simp[intOf];omega
  ·have hcond:decide ((k:Int)<(x.size:Int))=false∨(k<x.size∧decide ((m:Int)≤400)=false):=by
    by_cases hlt:k<x.size
    ·exact .inr ⟨hlt,decide_eq_false (by omega)⟩
    ·exact .inl (decide_eq_false (by omega))
   have hcv:=hbr.reads.conv (P:=Tryz.prog) HM.o 22 9 5 c Tryz.underlying22 Tryz.underlying5 Tryz.underlying9
   have hend:(Zd l).size≤408∧((apS zs x).size≤400→Zd l=apS zs x)∧(400<(apS zs x).size→400<(Zd l).size):=by
    rw[Zh,HM.o,HS9.o]
    refine⟨hm8,fun h4=>?_,fun h4=>?_⟩
    ·by_cases hlt:k<x.size
     ·have hm4:¬ m≤400:=fun h=>hgo ⟨hlt,h⟩
      have:=congrArg List.length HAP.o
      rw[List.length_append,HM.o] at this
      omega
     ·rw[← HFIN.o,← HAP.o,QP x k hlt,Za9,List.append_nil]
    ·by_cases hlt:k<x.size
     ·have hm4:¬ m≤400:=fun h=>hgo ⟨hlt,h⟩
      omega
     ·have:=congrArg List.length HAP.o
      rw[QP x k hlt,Za9,List.append_nil,HM.o] at this
      omega
   have HEND:=Hd hend
   clear hbr hend hgo hbox BR0
   rcases hcond with hc|⟨hlt,hc⟩
   ·have hlt2:¬ ((k:Int)<(x.size:Int)):=of_decide_eq_false hc
    go_wp2_with fail
    go_ret
    exact⟨_,rfl,HEND.o.1,HEND.o.2.1,HEND.o.2.2,hbel⟩
   ·have hlt2:(k:Int)<(x.size:Int):=by omega
    have hm2:¬ ((m:Int)≤400):=of_decide_eq_false hc
    go_wp2_with fail
    go_ret
    exact⟨_,rfl,HEND.o.1,HEND.o.2.1,HEND.o.2.2,hbel⟩
theorem Zg2 (zs:List ByteArray) (A:Option Addr) (cz B:Nat) (x:ByteArray) (n:Int) (w:World) (hsu:Zf zs=true) (hw:isW (L x)=true) (hrd:Rds w B A (zs.map Value.string)) (hB:B≤w.heap.size) :
  Calls Tryz.prog 100 #[.agg #[.slice A zs.length cz],.string x,.int .i64 n] w fun e w'=>e=.returned (okS (itV zs x n))∧Below w.heap.size w w':=by
 have hx4:=Zb hw
 obtain⟨hz4,hz⟩:=ZE hsu
 have bA:Below w.heap.size w (w.alloc (.cells #[.slice A zs.length cz] 26)):=(Below.refl _ _).alloc nlr _
 have zA:(w.alloc (.cells #[.slice A zs.length cz] 26)).heap.size=w.heap.size+1:=by simp
 have h0:=cell_of_row _ _ 0 _ _ (0,0) (heap_alloc_new w (.cells #[.slice A zs.length cz] 26))
 have hso:=ZB zs A cz B _ (by omega) (by omega) (fun y hy=>by have:=(hz y hy).2.1;unfold maxLen;omega) (hrd.below bA hB)
 rw[hsu,zA] at hso
 have hhi:=fun v=>Q8 zs.length x (by omega) hw v
 have hwd:=fun v=>Zi x _ (by unfold maxLen;omega) hw v
 have hap:=fun (u:ByteArray) v h1 h2 h3 h4=>J2 zs A zs.length cz B u v rfl hsu h1 h2 h3 h4
 have HSO:=Hd hso;have H0:=Hd h0;have HAP:=Hd hap;have HRD:=Hd hrd;have HWD:=Hd hwd
 clear hso h0 hap hrd hwd
 by_cases hn:0≤n∧n≤20
 ·have HN:=Hd (fun w=>Zw n 0 20 hn w)
  cases hwi:Qr zs.length (L x) with
  | false =>
   rw[hwi] at hhi
   have HHI:=Hd hhi
   have hv:itV zs x n=none:=XT (by rw[Vk,hwi,Bool.and_false,Bool.false_and,Bool.and_false])
   rw[hv]
   clear hhi hwi hv hn hsu hw hz
   go_enter Tryz.func100,Tryz.ntmps100
   go_wp2_with (first
    | (go_at_call 146;refine (HN.o _).mono ?_;rintro e w3 ⟨rfl,rfl⟩;have k0:=H0.o)
    | (go_at_call 78;refine HSO.o.mono ?_;rintro e w1 ⟨rfl,b1⟩;have k1:=(b1.cell (p:=⟨w.heap.size,0,none⟩) (by show w.heap.size<w.heap.size+1;omega)).trans H0.o)
    | (go_at_call 43;refine (HWD.o _).mono ?_;rintro e w4 ⟨rfl,rfl⟩)
    | (go_at_call 147;refine (HHI.o _).mono ?_;rintro e w2 ⟨rfl,rfl⟩))
   go_ret2
   exact⟨rfl,bA.trans (b1.mono (by omega))⟩
  | true =>
   rw[hwi] at hhi
   have HHI:=Hd hhi
   clear hhi
   have hok:Vk zs x n=true:=by rw[Vk,hsu,hw,hwi,decide_eq_true hn];rfl
   have hv:=Zbd hok
   have hlx:=VY hw hwi
   obtain⟨hn0,hn1⟩:=hn
   obtain⟨N,rfl⟩:=Int.eq_ofNat_of_zero_le hn0
   rw[show (N:Int).toNat=N from rfl] at hv
   have hN:N≤20:=by omega
   obtain⟨V,hV⟩:∃ V,itL zs N (L x)=V:=⟨_,rfl⟩
   rw[hv,hV]
   have HV:=Hd hV;have HLX:=Hd hlx;have HSU:=Hd hsu
   clear hV hlx hv hok hwi hsu hw hz
   go_enter Tryz.func100,Tryz.ntmps100
   go_wp2_with (first
    | (go_at_call 146;refine (HN.o _).mono ?_;rintro e w3 ⟨rfl,rfl⟩;have k0:=H0.o)
    | (go_at_call 78;refine HSO.o.mono ?_;rintro e w1 ⟨rfl,b1⟩;have k1:=(b1.cell (p:=⟨w.heap.size,0,none⟩) (by show w.heap.size<w.heap.size+1;omega)).trans H0.o)
    | (go_at_call 43;refine (HWD.o _).mono ?_;rintro e w4 ⟨rfl,rfl⟩)
    | (go_at_call 147;refine (HHI.o _).mono ?_;rintro e w2 ⟨rfl,rfl⟩))
   have z1:=b1.size
   have bw2:Below w.heap.size w w1:=bA.trans (b1.mono (by omega))
   have K2:=Hd k1
   clear k0 k1 b1 HSO HHI HN HWD
   go_loopw [1,8] (fun v i wr=>∃ (j:Nat) (u:ByteArray),j≤N∧i=.int .i64 j∧v=.string u∧u.size≤400∧Qs zs.length (L u)∧itL zs (N - j) (L u)=V∧wr.cell? ⟨w.heap.size,0,none⟩=some (.slice A zs.length cz)∧w.heap.size+1≤wr.heap.size∧Below w.heap.size w wr) (fun _ i _=>N - (intOf i).toNat)
   case atStart=>exact⟨0,x,by omega,rfl,rfl,hx4,HLX.o,HV.o,K2.out,by omega,bw2⟩
   case round =>
    obtain⟨j,u,hj,rfl,rfl,hu4,hlu,hit,hbox,hsz,hbel⟩:=hrel
    have HLU:=Hd hlu;have HIT:=Hd hit
    clear hlu hit
    by_cases hlt:j<N
    ·have hcl:=HAP.o u wr (by omega) HLU.o (HRD.o.below hbel hB) (by omega)
     have hlt2:(j:Int)<(N:Int):=by omega
     have hmore:=Zdx hlt (L u) (zs:=zs)
     rw[HIT.o] at hmore
     have hle:=Zbb HSU.o HLU.o
     have hys:L (apS zs u)=apL zs (L u):=by rw[apS,Zy]
     have hyz:=Vo zs u
     rw[← hyz] at hmore
     rw[← hys] at hmore hle
     have HCL:=Hd hcl;have HLE:=Hd hle;have HMO:=Hd hmore
     clear hcl hle hys hyz hmore
     go_wp2_with fail
     refine HCL.o.mono ?_
     rintro e w4 ⟨y,rfl,hy9,hy1,hy2,b4⟩
     have k4:=(b4.cell (p:=⟨w.heap.size,0,none⟩) (by show w.heap.size<wr.heap.size;omega)).trans hbox
     have K4:=Hd k4
     clear k4
     by_cases h4:(apS zs u).size≤400
     ·have hM:=HMO.o
      rw[if_pos h4] at hM
      have hyy:=hy1 h4
      rw[← hyy] at hM h4
      have hL:=HLE.o
      rw[← hyy] at hL
      have HM:=Hd hM;have HL:=Hd hL
      have h42:¬ (400:Int)<(y.size:Int):=by omega
      clear hM hL hyy hy1 hy2 hbox HMO HLE
      go_wp2_with fail
      go_roundw
      case rel=>exact⟨j+1,y,by omega,by go_num,rfl,h4,HL.o,HM.o.symm,K4.out,Nat.le_trans hsz b4.size,hbel.trans (b4.mono hbel.size)⟩
      case measure=>simp[intOf];omega
     ·have hM:=HMO.o
      rw[if_neg h4] at hM
      have HM:=Hd hM
      have h42:(400:Int)<(y.size:Int):=by have:=hy2 (by omega);omega
      clear hM hy1 hy2 hbox HMO HLE h4
      go_wp2_with fail
      go_ret2
      exact⟨by rw[HM.o];rfl,hbel.trans (b4.mono hbel.size)⟩
    ·have hjN:j=N:=by omega
     subst hjN
     have hfin:V=some (L u):=by rw[← HIT.o,Nat.sub_self];rfl
     have HF:=Hd hfin
     clear hfin
     go_wp2_with fail
     go_ret2
     exact⟨by rw[HF.o,okS,Option.map_some,Option.getD_some,Ql];rfl,hbel⟩
 ·have hv:itV zs x n=none:=XT (by rw[Vk,decide_eq_false hn,Bool.and_false,Bool.and_false])
  rw[hv]
  have HN:=Hd (fun w=>ZU n 0 20 hn w)
  clear hv hn hsu hw hz hhi
  go_enter Tryz.func100,Tryz.ntmps100
  go_wp2_with (go_at_call 146;refine (HN.o _).mono ?_;rintro e w3 ⟨rfl,rfl⟩)
  go_ret2
  exact⟨rfl,bA⟩
theorem ZeQ (zs:List ByteArray) (A:Option Addr) (cz B:Nat) (x:ByteArray) (w:World) (hsu:Zf zs=true) (hw:isW (L x)=true) (hrd:Rds w B A (zs.map Value.string)) (hB:B≤w.heap.size) :
  Calls Tryz.prog 94 #[.agg #[.slice A zs.length cz],.string x] w fun e w'=>e=.returned (okS (itV zs x 1))∧Below w.heap.size w w':=by
 have hx4:=Zb hw
 obtain⟨hz4,hz⟩:=ZE hsu
 have bA:Below w.heap.size w (w.alloc (.cells #[.slice A zs.length cz] 26)):=(Below.refl _ _).alloc nlr _
 have zA:(w.alloc (.cells #[.slice A zs.length cz] 26)).heap.size=w.heap.size+1:=by simp
 have h0:=cell_of_row _ _ 0 _ _ (0,0) (heap_alloc_new w (.cells #[.slice A zs.length cz] 26))
 have hso:=ZB zs A cz B _ (by omega) (by omega) (fun y hy=>by have:=(hz y hy).2.1;unfold maxLen;omega) (hrd.below bA hB)
 rw[hsu,zA] at hso
 have hhi:=fun v=>Q8 zs.length x (by omega) hw v
 have hwd:=fun v=>Zi x _ (by unfold maxLen;omega) hw v
 have hap:=fun v h2 h3 h4=>J2 zs A zs.length cz B x v rfl hsu (by omega) h2 h3 h4
 have HSO:=Hd hso;have H0:=Hd h0;have HAP:=Hd hap;have HRD:=Hd hrd;have HWD:=Hd hwd
 clear hso h0 hap hrd hwd
 cases hwi:Qr zs.length (L x) with
 | false =>
  rw[hwi] at hhi
  have HHI:=Hd hhi
  have hv:itV zs x 1=none:=XT (by rw[Vk,hwi,Bool.and_false,Bool.false_and,Bool.and_false])
  rw[hv]
  clear hhi hwi hv hsu hw hz
  go_enter Tryz.func94,Tryz.ntmps94
  go_wp2_with (first
   | (go_at_call 78;refine HSO.o.mono ?_;rintro e w1 ⟨rfl,b1⟩;have k1:=(b1.cell (p:=⟨w.heap.size,0,none⟩) (by show w.heap.size<w.heap.size+1;omega)).trans H0.o)
   | (go_at_call 43;refine (HWD.o _).mono ?_;rintro e w4 ⟨rfl,rfl⟩)
   | (go_at_call 147;refine (HHI.o _).mono ?_;rintro e w2 ⟨rfl,rfl⟩))
  go_ret2
  exact⟨rfl,bA.trans (b1.mono (by omega))⟩
 | true =>
  rw[hwi] at hhi
  have HHI:=Hd hhi
  have hok:Vk zs x 1=true:=by rw[Vk,hsu,hw,hwi];rfl
  have hv:=Zbd hok
  have hlx:=VY hw hwi
  rw[show (1:Int).toNat=1 from rfl,itL] at hv
  have hsz9:=Vo zs x
  rw[← hsz9] at hv
  have hv2:itV zs x 1=if (apS zs x).size≤400 then some (apS zs x) else none:=by rw[hv];split<;>rfl
  obtain⟨V,hV⟩:∃ V,itV zs x 1=V:=⟨_,rfl⟩
  rw[hV] at hv2 ⊢
  have HLX:=Hd hlx;have HV2:=Hd hv2
  clear hhi hv hv2 hV hok hwi hsu hw hz hlx hsz9
  go_enter Tryz.func94,Tryz.ntmps94
  go_wp2_with (first
   | (go_at_call 78;refine HSO.o.mono ?_;rintro e w1 ⟨rfl,b1⟩;have k1:=(b1.cell (p:=⟨w.heap.size,0,none⟩) (by show w.heap.size<w.heap.size+1;omega)).trans H0.o)
   | (go_at_call 43;refine (HWD.o _).mono ?_;rintro e w4 ⟨rfl,rfl⟩)
   | (go_at_call 147;refine (HHI.o _).mono ?_;rintro e w2 ⟨rfl,rfl⟩))
  have z1:=b1.size
  have bw1:Below w.heap.size w w1:=bA.trans (b1.mono (by omega))
  refine (HAP.o w1 HLX.o (HRD.o.below bw1 hB) (by omega)).mono ?_
  rintro e w4 ⟨y,rfl,hy9,hy1,hy2,b4⟩
  have bw4:Below w.heap.size w w4:=bw1.trans (b4.mono (by omega))
  by_cases h4:(apS zs x).size≤400
  ·have hyy:=hy1 h4
   have hV1:V=some y:=by rw[HV2.o,if_pos h4,hyy]
   rw[← hyy] at h4
   have h42:¬ (400:Int)<(y.size:Int):=by omega
   have HYY:=Hd hV1
   clear hyy hy1 hy2 h4 hV1
   go_wp2_with fail
   go_ret2
   exact⟨by rw[HYY.o];rfl,bw4⟩
  ·have hV1:V=none:=by rw[HV2.o,if_neg h4]
   have h42:(400:Int)<(y.size:Int):=by have:=hy2 (by omega);omega
   have HYY:=Hd hV1
   clear hy1 hy2 h4 hV1
   go_wp2_with fail
   go_ret2
   exact⟨by rw[HYY.o];rfl,bw4⟩
end Go.Proofs.YtocbgldilgemoaaGreatDoor
