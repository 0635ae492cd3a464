/- ApplySubst and IterateSubst, both. No condition but the bounds. -/
import Derived.Test.YtocbgldilgemoaaGreatDoorM21
namespace Go.Proofs.YtocbgldilgemoaaGreatDoor
set_option maxRecDepth 4000
set_option maxHeartbeats 2000000
open Go.RowKit
set_option linter.unusedVariables false
theorem Vo (zs:List ByteArray) (x:ByteArray):(apS zs x).size=(apL zs (L x)).length:=by rw[apS,Zh]
theorem ZfS (a b:ByteArray):L (a++b)=L a++L b:=by simp[L,ByteArray.data_append]
theorem Zdw {n:Nat} {l:List UInt8} (h:Qs n l) {k:Nat} {d:UInt8} (hd:l[k]? = some d):97≤d.toNat∧d.toNat<97+n:=h d (List.mem_of_getElem? hd)
theorem ZaN (zs:List ByteArray) (A:Option Addr) (nz cz B:Nat) (x:ByteArray) (w:World) (hl:zs.length=nz) (hsu:Zf zs=true) (hx:x.size≤1000) (hlet:Qs zs.length (L x)) (hrd:Rds w B A (zs.map Value.string)) (hB:B≤w.heap.size) :
  Calls Tryz.prog 199 #[.agg #[.slice A nz cz],.string x] w fun e w'=>e=.returned (.string (apS zs x))∧Below w.heap.size w w':=by
 have hz:=ZE hsu
 have bA:Below w.heap.size w (w.alloc (.cells #[.slice A nz cz] 26)):=(Below.refl _ _).alloc nlr _
 have zA:(w.alloc (.cells #[.slice A nz cz] 26)).heap.size=w.heap.size+1:=by simp
 have h0:=cell_of_row _ _ 0 _ _ (0,0) (heap_alloc_new w (.cells #[.slice A nz cz] 26))
 have himg:∀ (d:UInt8) (v:World),97≤d.toNat→d.toNat<97+zs.length→Rds v B A (zs.map Value.string)→B≤v.heap.size →
   Calls Tryz.prog 142 #[.agg #[.slice A nz cz],.int .u8 (d.toNat:Int)] v fun e v'=>e=.returned (.string (QO zs d))∧Below v.heap.size v v':=by
  intro d v h1 h2 hr hb
  obtain⟨k,hk,hzk⟩:=JA h1 h2
  have:=YM zs A nz cz B k _ v hl hzk (by omega) hr hb
  rwa[hk] at this
 have hi8:∀ (d:UInt8),97≤d.toNat→d.toNat<97+zs.length→(QO zs d).size≤8:=fun d h1 h2=>(hz.2 _ (Zfp hsu h1 h2)).2.1
 have hfin:Zd (apL zs (L x))=apS zs x:=rfl
 have HIM:=Hd himg;have H0:=Hd h0;have HRD:=Hd hrd;have HLET:=Hd hlet;have HI8:=Hd hi8;have HFIN:=Hd hfin
 clear himg h0 hrd hlet hi8 hz hsu hl hfin
 go_enter Tryz.func199,Tryz.ntmps199
 go_wp2_with fail
 go_loopw [5,6,9] (fun o _ i wr=>∃ (k:Nat) (u:ByteArray),k≤x.size∧i=.int .i64 k∧o=.string u∧u.size≤8 * k∧L u++apL zs ((L x).drop k)=apL zs (L x)∧wr.cell? ⟨w.heap.size,0,none⟩=some (.slice A nz cz)∧w.heap.size+1≤wr.heap.size∧Below w.heap.size w wr) (fun _ _ i _=>x.size - (intOf i).toNat)
 case atStart=>exact⟨0,_,by omega,rfl,rfl,by decide,rfl,H0.o,by omega,bA⟩
 case round =>
  obtain⟨k,u,hk,rfl,rfl,hu,hap,hbox,hsz,hbel⟩:=hrel
  have HAP:=Hd hap
  clear hap
  by_cases hlt:k<x.size
  ·obtain⟨d,hd⟩:∃ d,x[k]'hlt=d:=⟨_,rfl⟩
   have hdd:=ZS x k hlt
   rw[hd] at hdd
   have hmem:(L x)[k]? = some d:=by
    have:=congrArg List.head? hdd
    rw[List.head?_drop] at this;exact this
   obtain⟨hd1,hd2⟩:=Zdw HLET.o hmem
   have hap2:L u++(L (QO zs d)++apL zs ((L x).drop (k+1)))=apL zs (L x):=by rw[← HAP.o,hdd,VX]
   have hy8:=HI8.o d hd1 hd2
   have hcl:=HIM.o d wr.drew hd1 hd2 ((HRD.o.below hbel hB).dr (Dr.refl _).drew) (by show B≤wr.heap.size;omega)
   obtain⟨y,hy⟩:∃ y,QO zs d=y:=⟨_,rfl⟩
   rw[hy] at hcl hy8 hap2
   have hbox2:wr.drew.cell? ⟨w.heap.size,0,none⟩=some (.slice A nz cz):=hbox
   have hlt2:(k:Int)<(x.size:Int):=by omega
   have hk0:(0:Int)≤(k:Int):=by omega
   have hn:¬ 9223372036854775807<u.size+y.size:=by omega
   have HCL:=Hd hcl;have HA2:=Hd hap2
   clear hcl hap2 hmem hdd hy hd1 hd2
   go_wp2_with fail
   go_region_with (go_at_call 142;refine HCL.o.mono ?_;rintro e w2 ⟨rfl,b2⟩)
   all_goals
    have hb2:Below wr.heap.size wr w2:=((Dr.refl wr).drew.below).trans b2
    have hbox3:=(hb2.cell (p:=⟨w.heap.size,0,none⟩) (by show w.heap.size<wr.heap.size;omega)).trans hbox
    have HB2:=Hd hb2;have HX3:=Hd hbox3
    clear b2 hb2 hbox3 hbox hbox2
    go_wp2_with fail
    go_roundw
    case rel=>exact⟨k+1,u++y,by omega,by go_num,rfl,by rw[ByteArray.size_append];omega,by rw[ZfS,List.append_assoc];exact HA2.o,HX3.o,Nat.le_trans hsz HB2.o.size,hbel.trans (HB2.o.mono hbel.size)⟩
    case measure=>simp[intOf];omega
  ·have hd0:(L x).drop k=[]:=QP x k hlt
   have hue:u=apS zs x:=by
    apply ZH
    show L u=L _
    rw[← HFIN.o,Zy,← HAP.o,hd0,Za9,List.append_nil]
   have HUE:=Hd hue
   clear hd0 hue
   go_wp2_with fail
   go_ret
   exact⟨by rw[← HUE.o];rfl,hbel⟩
theorem Zdx {zs:List ByteArray} {n j:Nat} (h:j<n) (l:List UInt8):itL zs (n - j) l=if (apL zs l).length≤400 then itL zs (n - (j+1)) (apL zs l) else none:=by
 obtain⟨q,hq⟩:∃ q,n - j=q+1:=⟨n - j - 1,by omega⟩
 rw[hq,itL,show n - (j+1)=q by omega]
theorem ZaO (zs:List ByteArray) (A:Option Addr) (cz B:Nat) (x:ByteArray) (n:Int) (w:World) (hsu:Zf zs=true) (hw:isW (L x)=true) (hrd:Rds w B A (zs.map Value.string)) (hB:B≤w.heap.size) :
  Calls Tryz.prog 127 #[.agg #[.slice A zs.length cz],.string x,.int .i64 n] w fun e w'=>e=.returned (okS (itV zs x n))∧Below w.heap.size w w':=by
 have hx4:=Zb hw
 obtain⟨hz4,hz⟩:=ZE hsu
 have bA:Below w.heap.size w (w.alloc (.cells #[.slice A zs.length cz] 26)):=(Below.refl _ _).alloc nlr _
 have zA:(w.alloc (.cells #[.slice A zs.length cz] 26)).heap.size=w.heap.size+1:=by simp
 have h0:=cell_of_row _ _ 0 _ _ (0,0) (heap_alloc_new w (.cells #[.slice A zs.length cz] 26))
 have hso:=Zz zs A cz B _ (by omega) (by omega) (fun y hy=>by have:=(hz y hy).2.1;unfold maxLen;omega) (hrd.below bA hB)
 rw[hsu,zA] at hso
 have hhi:=fun v=>JD A zs.length cz x (by omega) (by omega) v
 rw[hw,Bool.true_and] at hhi
 have hap:=fun (u:ByteArray) v h1 h2 h3 h4=>ZaN zs A zs.length cz B u v rfl hsu h1 h2 h3 h4
 have HSO:=Hd hso;have H0:=Hd h0;have HAP:=Hd hap;have HRD:=Hd hrd
 clear hso h0 hap hrd
 cases hwi:Qr zs.length (L x) with
 | false =>
  rw[hwi] at hhi
  have HHI:=Hd hhi
  have hv:itV zs x n=none:=XT (by rw[Vk,hwi,Bool.and_false,Bool.false_and,Bool.and_false])
  rw[hv]
  clear hhi hwi hv hsu hw hz
  go_enter Tryz.func127,Tryz.ntmps127
  go_wp2_with (first
   | (go_at_call 26;refine HSO.o.mono ?_;rintro e w1 ⟨rfl,b1⟩;have k1:=(b1.cell (p:=⟨w.heap.size,0,none⟩) (by show w.heap.size<w.heap.size+1;omega)).trans H0.o)
   | (go_at_call 66;refine (HHI.o _).mono ?_;rintro e w2 ⟨rfl,b2⟩))
  go_ret2
  exact⟨rfl,bA.trans ((b1.mono (by omega)).trans (b2.mono (by have:=b1.size;omega)))⟩
 | true =>
  rw[hwi] at hhi
  have HHI:=Hd hhi
  clear hhi
  by_cases hn:0≤n∧n≤20
  ·have hok:Vk zs x n=true:=by rw[Vk,hsu,hw,hwi,decide_eq_true hn];rfl
   have hv:=Zbd hok
   have hlx:=VY hw hwi
   have HN:=Hd (fun w=>Zo n 0 20 hn w)
   obtain⟨hn0,hn1⟩:=hn
   obtain⟨N,rfl⟩:=Int.eq_ofNat_of_zero_le hn0
   rw[show (N:Int).toNat=N from rfl] at hv
   have hN:N≤20:=by omega
   obtain⟨V,hV⟩:∃ V,itL zs N (L x)=V:=⟨_,rfl⟩
   rw[hv,hV]
   have HV:=Hd hV;have HLX:=Hd hlx;have HSU:=Hd hsu
   clear hV hlx hv hok hwi hsu hw hz
   go_enter Tryz.func127,Tryz.ntmps127
   go_wp2_with (first
    | (go_at_call 26;refine HSO.o.mono ?_;rintro e w1 ⟨rfl,b1⟩;have k1:=(b1.cell (p:=⟨w.heap.size,0,none⟩) (by show w.heap.size<w.heap.size+1;omega)).trans H0.o)
    | (go_at_call 66;refine (HHI.o _).mono ?_;rintro e w2 ⟨rfl,b2⟩;have k2:=(b2.cell (p:=⟨w.heap.size,0,none⟩) (by have:=b1.size;show w.heap.size<w1.heap.size;omega)).trans k1)
    | (go_at_call 65;refine (HN.o _).mono ?_;rintro e w3 ⟨rfl,rfl⟩))
   have z1:=b1.size
   have z2:=b2.size
   have bw2:Below w.heap.size w w2:=bA.trans ((b1.mono (by omega)).trans (b2.mono (by omega)))
   have K2:=Hd k2
   clear k1 k2 b1 b2 HSO HHI HN
   go_loopw [1,23] (fun v i wr=>∃ (j:Nat) (u:ByteArray),j≤N∧i=.int .i64 j∧v=.string u∧u.size≤400∧Qs zs.length (L u)∧itL zs (N - j) (L u)=V∧wr.cell? ⟨w.heap.size,0,none⟩=some (.slice A zs.length cz)∧w.heap.size+1≤wr.heap.size∧Below w.heap.size w wr) (fun _ i _=>N - (intOf i).toNat)
   case atStart=>exact⟨0,x,by omega,rfl,rfl,hx4,HLX.o,HV.o,K2.out,by omega,bw2⟩
   case round =>
    obtain⟨j,u,hj,rfl,rfl,hu4,hlu,hit,hbox,hsz,hbel⟩:=hrel
    have HLU:=Hd hlu;have HIT:=Hd hit
    clear hlu hit
    by_cases hlt:j<N
    ·have hcl:=HAP.o u wr (by omega) HLU.o (HRD.o.below hbel hB) (by omega)
     have hlt2:(j:Int)<(N:Int):=by omega
     have hmore:=Zdx hlt (L u) (zs:=zs)
     rw[HIT.o] at hmore
     have hle:=Zbb HSU.o HLU.o
     have hln:=(Zbc HSU.o HLU.o).2
     rw[Zj] at hln
     have hiw:=Zgz hle hz4
     have hys:L (apS zs u)=apL zs (L u):=by rw[apS,Zy]
     have hyz:=Vo zs u
     obtain⟨y,hy⟩:∃ y,apS zs u=y:=⟨_,rfl⟩
     rw[hy] at hcl hys hyz
     rw[← hys] at hmore hle hiw
     rw[Zj] at hmore hiw
     rw[← hyz] at hln
     have hiw2:=fun v=>Zl y _ (by unfold maxLen;omega) hiw v
     have HCL:=Hd hcl;have HLE:=Hd hle
     clear hcl hle hys hiw hy hyz
     by_cases h4:y.size≤400
     ·rw[if_pos h4] at hmore
      rw[decide_eq_true h4] at hiw2
      have HM:=Hd hmore;have HIW:=Hd hiw2
      clear hmore hiw2
      go_wp2_with fail
      refine HCL.o.mono ?_
      rintro e w4 ⟨rfl,b4⟩
      have k4:=(b4.cell (p:=⟨w.heap.size,0,none⟩) (by show w.heap.size<wr.heap.size;omega)).trans hbox
      have K4:=Hd k4
      clear k4
      go_wp2_with (go_at_call 27;refine (HIW.o _).mono ?_;rintro e w5 ⟨rfl,rfl⟩)
      go_roundw
      case rel=>exact⟨j+1,y,by omega,by go_num,rfl,h4,HLE.o,HM.o.symm,K4.out,Nat.le_trans hsz b4.size,hbel.trans (b4.mono hbel.size)⟩
      case measure=>simp[intOf];omega
     ·rw[if_neg h4] at hmore
      rw[decide_eq_false h4] at hiw2
      have HM:=Hd hmore;have HIW:=Hd hiw2
      clear hmore hiw2
      go_wp2_with fail
      refine HCL.o.mono ?_
      rintro e w4 ⟨rfl,b4⟩
      go_wp2_with (go_at_call 27;refine (HIW.o _).mono ?_;rintro e w5 ⟨rfl,rfl⟩)
      go_ret2
      exact⟨by rw[HM.o];rfl,hbel.trans (b4.mono hbel.size)⟩
    ·have hjN:j=N:=by omega
     subst hjN
     have hfin:V=some (L u):=by rw[← HIT.o,Nat.sub_self];rfl
     have HF:=Hd hfin
     clear hfin
     go_wp2_with fail
     go_ret2
     exact⟨by rw[HF.o,okS,Option.map_some,Option.getD_some,Ql];rfl,hbel⟩
  ·have hv:itV zs x n=none:=XT (by rw[Vk,decide_eq_false hn,Bool.and_false,Bool.and_false])
   rw[hv]
   have HN:=Hd (fun w=>ZK n 0 20 hn w)
   clear hwi hv hn hsu hw hz
   go_enter Tryz.func127,Tryz.ntmps127
   go_wp2_with (first
    | (go_at_call 26;refine HSO.o.mono ?_;rintro e w1 ⟨rfl,b1⟩;have k1:=(b1.cell (p:=⟨w.heap.size,0,none⟩) (by show w.heap.size<w.heap.size+1;omega)).trans H0.o)
    | (go_at_call 66;refine (HHI.o _).mono ?_;rintro e w2 ⟨rfl,b2⟩)
    | (go_at_call 65;refine (HN.o _).mono ?_;rintro e w3 ⟨rfl,rfl⟩))
   go_ret2
   exact⟨rfl,bA.trans ((b1.mono (by omega)).trans (b2.mono (by have:=b1.size;omega)))⟩
theorem ZeR (zs:List ByteArray) (A:Option Addr) (cz B:Nat) (x:ByteArray) (w:World) (hsu:Zf zs=true) (hw:isW (L x)=true) (hrd:Rds w B A (zs.map Value.string)) (hB:B≤w.heap.size) :
  Calls Tryz.prog 115 #[.agg #[.slice A zs.length cz],.string x] w fun e w'=>e=.returned (okS (itV zs x 1))∧Below w.heap.size w w':=by
 have bA:Below w.heap.size w (w.alloc (.cells #[.slice A zs.length cz] 26)):=(Below.refl _ _).alloc nlr _
 have zA:(w.alloc (.cells #[.slice A zs.length cz] 26)).heap.size=w.heap.size+1:=by simp
 have h0:=cell_of_row _ _ 0 _ _ (0,0) (heap_alloc_new w (.cells #[.slice A zs.length cz] 26))
 have hit:=ZaO zs A cz B x 1 _ hsu hw (hrd.below bA hB) (by rw[zA];omega)
 rw[zA] at hit
 obtain⟨o,ho⟩:∃ o,itV zs x 1=o:=⟨_,rfl⟩
 rw[ho] at hit ⊢
 have HIT:=Hd hit
 clear hit hrd hsu hw ho
 go_enter Tryz.func115,Tryz.ntmps115
 go_wp2_with fail
 refine HIT.o.mono ?_
 rintro e w1 ⟨rfl,b1⟩
 unfold okS
 go_wp2_with fail
 go_ret2
 exact⟨rfl,bA.trans (b1.mono (by omega))⟩
end Go.Proofs.YtocbgldilgemoaaGreatDoor
