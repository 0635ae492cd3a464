/- Lines that are drawn. No condition but the bounds. -/
import Derived.Test.YtocbgldilgemoaaGreatDoorLns
import Derived.Test.YtocbgldilgemoaaGreatDoorMks
import Derived.Great.Walk
namespace Go.Proofs.YtocbgldilgemoaaGreatDoor
set_option maxHeartbeats 8000000
set_option maxRecDepth 4000
open Go.RowKit
set_option linter.unusedVariables false
theorem QS (xs:List ByteArray) (cs:Array Value) (hcs:cs=(xs.map Value.string).toArray) (w:World) (p:Nat) (hp:p<w.heap.size):∀ w',(w.alloc (.cells cs 9)).grownBy w' (some p)→∀ j s,xs[j]? = some s→w'.cell? ⟨w.heap.size,j,none⟩=some (.string s):=by
 intro w' hg j s hs
 have hq:=(hg.block w.heap.size (by simp) (fun e=>by injection e with e;omega)).trans (heap_alloc_new w (.cells cs 9))
 rw[cell_of_row _ _ j _ _ (0,0) hq,hcs]
 simp[hs]
theorem ZbY (p B:Nat) (A:Option Addr) (n c:Nat) (l:List UInt8) (w:World) (hl:l.length=n) (hn:n≤1048576) (hc:CurAt w p A n c) (hrd:Rds w B A (byV l)) (hB:B≤p) :
  Calls Tryz.prog 21 #[.pointer (some ⟨p,0,none⟩),.int .i64 300] w fun e w'=>∃ x:Nat,x<300∧e=.returned (.int .i64 x)∧CurAt w' p A n c∧Below p w w'∧w.grownBy w' (some p):=by
 have hb:=fun v hcv hrv=>Xa p B A n c l v hl hn hcv hrv hB
 have HB:=Hd hb;have HR:=Hd hrd;have HC:=Hd hc
 clear hb hc hrd hl
 go_enter Tryz.func21,Tryz.ntmps21
 go_wp2_with fail
 refine (HB.o _ HC.o HR.o).mono ?_
 rintro e w1 ⟨x,hx,rfl,c1,b1,g1⟩
 go_wp2_with fail
 refine (HB.o _ c1 (HR.o.below b1 hB)).mono ?_
 rintro e w2 ⟨y,hy,rfl,c2,b2,g2⟩
 have b2:=b1.trans b2;have g2:=g1.trans g2
 go_wp2_with fail
 refine (HB.o _ c2 (HR.o.below b2 hB)).mono ?_
 rintro e w3 ⟨z,hz,rfl,c3,b3,g3⟩
 have b3:=b2.trans b3;have g3:=g2.trans g3
 go_wp2_with fail
 refine (HB.o _ c3 (HR.o.below b3 hB)).mono ?_
 rintro e w4 ⟨u,hu,rfl,c4,b4,g4⟩
 have b4:=b3.trans b4;have g4:=g3.trans g4
 go_wp2_with fail
 go_ret
 refine⟨(x * 16777216+y * 65536+z * 256+u) % 300,Nat.mod_lt _ (by decide),?_,c4,b4,g4⟩
 first
  | rfl
  | (congr 2;omega)
  | (simp;omega)
theorem Zdy (p B:Nat) (A:Option Addr) (n c:Nat) (l:List UInt8) (w:World) (hl:l.length=n) (hn:n≤1048576) (hc:CurAt w p A n c) (hrd:Rds w B A (byV l)) (hB:B≤p) :
  Calls Tryz.prog 22 #[.pointer (some ⟨p,0,none⟩)] w fun e w'=>∃ s,LnK 100 s∧e=.returned (.string s)∧CurAt w' p A n c∧Below p w w'∧w.grownBy w' (some p):=by
 have hbl:=fun m v h1 h2 hcv hrv=>Qj p B A n c m l v h1 h2 hl hn hcv hrv hB
 have hbg:=fun v hcv hrv=>ZbY p B A n c l v hl hn hcv hrv hB
 have hfm:=fun (x:Nat) (hx:x<300) v=>ZJ (x:Int) (by unfold I64;omega) v
 have hst:=fun xs g k c2 v h1 h2 h3 hcv hrv hx=>WA p B g k c2 A n c l xs v h1 h2 h3 hl hn hcv hrv hB hx
 have hdr:=fun v hcv hrv=>ZdK p B A n c l v hl hn hcv hrv hB
 have hwd:=fun v hcv hrv=>Zc3 p B A n c 8 l v (by decide) (by decide) hl hn hcv hrv hB
 have hfs:=fun zs A' k c' B' v h1 h2 h3 h4=>QW zs A' k c' B' v h1 h2 h3 h4
 have HBL:=Hd hbl;have HBG:=Hd hbg;have HFM:=Hd hfm;have HST:=Hd hst;have HDR:=Hd hdr;have HWD:=Hd hwd;have HFS:=Hd hfs
 have HC:=Hd hc;have HR:=Hd hrd
 clear hbl hbg hfm hst hdr hwd hfs hc hrd hl
 go_enter Tryz.func22,Tryz.ntmps22
 go_wp2_with fail
 refine (HBL.o 9 _ (by decide) (by decide) HC.o HR.o).mono ?_
 rintro e w1 ⟨x,hx,rfl,c1,b1,g1⟩
 have hi1:I64 (x:Int):=by unfold I64;omega
 have h1:=HFM.o x (by omega) w1
 obtain⟨sa,hsa⟩:∃ s,Zd (Lib.itoa (x:Int))=s:=⟨_,rfl⟩
 have ha:LnK 21 sa:=hsa ▸ Yl hi1
 rw[hsa] at h1
 have H1:=Hd h1
 clear h1 hsa hi1 hx
 go_wp2_with fail
 refine H1.o.mono ?_
 rintro e w2 ⟨rfl,b2⟩
 have c2:=c1.below b2;have g2:=ZZ g1 (b2.mono b1.size);have b2:=b1.trans (b2.mono (Nat.le_of_lt c1.1))
 go_wp2_with fail
 refine (HBL.o 12 _ (by decide) (by decide) c2 (HR.o.below b2 hB)).mono ?_
 rintro e w3 ⟨y,hy,rfl,c3,b3,g3⟩
 have b3:=b2.trans b3;have g3:=g2.trans g3
 have hi1:I64 (y:Int):=by unfold I64;omega
 have h1:=HFM.o y (by omega) w3
 obtain⟨sd,hsd⟩:∃ s,Zd (Lib.itoa (y:Int))=s:=⟨_,rfl⟩
 have hd:LnK 21 sd:=hsd ▸ Yl hi1
 rw[hsd] at h1
 have H2:=Hd h1
 clear h1 hsd hi1 hy H1
 go_wp2_with fail
 refine H2.o.mono ?_
 rintro e w4 ⟨rfl,b4⟩
 have c4:=c3.below b4;have g4:=ZZ g3 (b4.mono b3.size);have b4:=b3.trans (b4.mono (Nat.le_of_lt c3.1))
 go_wp2_with fail
 refine (HBL.o 27 _ (by decide) (by decide) c4 (HR.o.below b4 hB)).mono ?_
 rintro e w5 ⟨k,hk,rfl,c5,b5,g5⟩
 have b5:=b4.trans b5;have g5:=g4.trans g5
 have C5:=Hd c5;have B5:=Hd b5;have G5:=Hd g5;have HA:=Hd ha;have HD:=Hd hd
 have ha1:=ha.1;have hd1:=hd.1
 clear c1 b1 g1 c2 b2 g2 c3 b3 g3 c4 b4 g4 c5 b5 g5 ha hd H2 HC
 have key:k=0∨k=1∨k=2∨k=3∨k=4∨k=5∨k=6∨k=7∨k=8∨k=9∨k=10∨k=11∨k=12∨k=13∨k=14∨k=15∨k=16∨k=17∨k=18∨k=19∨k=20∨k=21∨k=22∨k=23∨k=24∨k=25∨k=26:=by omega
 rcases key with rfl|rfl|rfl|rfl|rfl|rfl|rfl|rfl|rfl|rfl|rfl|rfl|rfl|rfl|rfl|rfl|rfl|rfl|rfl|rfl|rfl|rfl|rfl|rfl|rfl|rfl|rfl
 ·as_aux_lemma =>
  go_wp2_with fail
  refine (HDR.o _ C5.out (HR.o.below B5.out hB)).mono ?_
  rintro e w6 ⟨zs,A',k,c',hzk,hsu,rfl,o6,b6,c6,g6⟩
  obtain⟨hz4,hzz⟩:=ZE hsu
  have hf:=ZeS hsu
  have hf1:=hf.1
  have h7:=HFS.o zs A' k c' _ w6 hzk nlr (by omega) (fun y hy=>by have:=(hzz y hy).2.1;unfold maxLen;omega) o6.reads
  obtain⟨sf,hsf⟩:∃ s,fsV zs=s:=⟨_,rfl⟩
  rw[hsf] at h7 hf hf1
  have H7:=Hd h7;have HF:=Hd hf;have C6:=Hd c6;have B6:=Hd (B5.out.trans b6);have G6:=Hd (G5.out.trans g6)
  clear h7 hf c6 b6 g6 o6 hsu hz4 hzz hzk hsf
  go_wp2_with fail
  refine H7.o.mono ?_
  rintro e w7 ⟨rfl,b7⟩
  go_wp2_with fail
  go_ret
  exact⟨_,(((show LnK 6 ({ data:=#[115,117,98,115,116,32] }:ByteArray) from ⟨by decide,by decide⟩).app HF.o):LnK _ _).mono (by decide),rfl,C6.out.below b7,B6.out.trans (b7.mono (Nat.le_of_lt C6.out.1)),ZZ G6.out (b7.mono B6.out.size)⟩
 ·as_aux_lemma =>
  have hp:=C5.out.1
  have hsz5:=B5.out.size
  have bA:=(Below.refl w5.heap.size w5).alloc nlr (.cells #[.string { data:=#[116,104,117,101] },.string { data:=#[116,114,105,98,111,110,97,99,99,105] },.string { data:=#[115,105,108,118,101,114] },.string { data:=#[115,113,117,97,114,101,102,114,101,101] },.string { data:=#[119,104,97,116] }] 9)
  have hst:=HST.o [({ data:=#[116,104,117,101] }:ByteArray),({ data:=#[116,114,105,98,111,110,97,99,99,105] }:ByteArray),({ data:=#[115,105,108,118,101,114] }:ByteArray),({ data:=#[115,113,117,97,114,101,102,114,101,101] }:ByteArray),({ data:=#[119,104,97,116] }:ByteArray)] w5.heap.size 5 5 (w5.alloc (.cells #[.string { data:=#[116,104,117,101] },.string { data:=#[116,114,105,98,111,110,97,99,99,105] },.string { data:=#[115,105,108,118,101,114] },.string { data:=#[115,113,117,97,114,101,102,114,101,101] },.string { data:=#[119,104,97,116] }] 9)) rfl (by decide) (by decide) (C5.out.below bA) ((HR.o.below B5.out hB).below bA (by omega)) (QS [({ data:=#[116,104,117,101] }:ByteArray),({ data:=#[116,114,105,98,111,110,97,99,99,105] }:ByteArray),({ data:=#[115,105,108,118,101,114] }:ByteArray),({ data:=#[115,113,117,97,114,101,102,114,101,101] }:ByteArray),({ data:=#[119,104,97,116] }:ByteArray)] #[.string { data:=#[116,104,117,101] },.string { data:=#[116,114,105,98,111,110,97,99,99,105] },.string { data:=#[115,105,108,118,101,114] },.string { data:=#[115,113,117,97,114,101,102,114,101,101] },.string { data:=#[119,104,97,116] }] rfl w5 p hp)
  obtain⟨w6,hw6⟩:∃ z,w5.alloc (.cells #[.string { data:=#[116,104,117,101] },.string { data:=#[116,114,105,98,111,110,97,99,99,105] },.string { data:=#[115,105,108,118,101,114] },.string { data:=#[115,113,117,97,114,101,102,114,101,101] },.string { data:=#[119,104,97,116] }] 9)=z:=⟨_,rfl⟩
  rw[hw6] at bA hst
  have HST6:=Hd hst;have BA:=Hd bA;have HW6:=Hd hw6;have HP:=Hd hp
  clear hst bA hw6
  go_wp2_with (refine Great.wpList_buildSliceTo rfl 23 9 5 _ rfl _ rfl _ rfl (by as_aux_lemma=>kernel_rfl) #[.string { data:=#[116,104,117,101] },.string { data:=#[116,114,105,98,111,110,97,99,99,105] },.string { data:=#[115,105,108,118,101,114] },.string { data:=#[115,113,117,97,114,101,102,114,101,101] },.string { data:=#[119,104,97,116] }] (by as_aux_lemma=>kernel_rfl) ?_;simp only[Act.put,List.setIfInBounds_toArray,List.set_cons_succ,List.set_cons_zero])
  rw[HW6.o]
  refine HST6.o.mono ?_
  rintro e w7 ⟨s,hsm,rfl,c7,b7,g7⟩
  have hsl:LnK 10 s:=Jk (xs:=[({ data:=#[116,104,117,101] }:ByteArray),({ data:=#[116,114,105,98,111,110,97,99,99,105] }:ByteArray),({ data:=#[115,105,108,118,101,114] }:ByteArray),({ data:=#[115,113,117,97,114,101,102,114,101,101] }:ByteArray),({ data:=#[119,104,97,116] }:ByteArray)]) (by decide) s hsm
  have hsl1:=hsl.1
  have HSM:=Hd hsl;have C7:=Hd c7;have B7:=Hd ((B5.out.trans (BA.out.mono (Nat.le_of_lt HP.o))).trans b7);have G7:=Hd ((ZZ G5.out (BA.out.mono hsz5)).trans g7)
  clear hsl hsm c7 b7 g7
  go_wp2_with fail
  go_ret
  exact⟨_,(((show LnK 6 ({ data:=#[115,117,98,115,116,32] }:ByteArray) from ⟨by decide,by decide⟩).app (HSM.o:LnK 10 s)):LnK _ _).mono (by decide),rfl,C7.out,B7.out,G7.out⟩
 ·as_aux_lemma =>
  go_wp2_with fail
  refine (HDR.o _ C5.out (HR.o.below B5.out hB)).mono ?_
  rintro e w6 ⟨zs,A',k,c',hzk,hsu,rfl,o6,b6,c6,g6⟩
  obtain⟨hz4,hzz⟩:=ZE hsu
  have hf:=ZeS hsu
  have hf1:=hf.1
  have h7:=HFS.o zs A' k c' _ w6 hzk nlr (by omega) (fun y hy=>by have:=(hzz y hy).2.1;unfold maxLen;omega) o6.reads
  obtain⟨sf,hsf⟩:∃ s,fsV zs=s:=⟨_,rfl⟩
  rw[hsf] at h7 hf hf1
  have H7:=Hd h7;have HF:=Hd hf;have C6:=Hd c6;have B6:=Hd (B5.out.trans b6);have G6:=Hd (G5.out.trans g6)
  clear h7 hf c6 b6 g6 o6 hsu hz4 hzz hzk hsf
  go_wp2_with fail
  refine H7.o.mono ?_
  rintro e w7 ⟨rfl,b7⟩
  go_wp2_with fail
  go_ret
  exact⟨_,(((show LnK 6 ({ data:=#[97,102,116,101,114,32] }:ByteArray) from ⟨by decide,by decide⟩).app HF.o):LnK _ _).mono (by decide),rfl,C6.out.below b7,B6.out.trans (b7.mono (Nat.le_of_lt C6.out.1)),ZZ G6.out (b7.mono B6.out.size)⟩
 ·as_aux_lemma =>
  go_wp2_with fail
  go_ret
  exact⟨_,⟨by decide,by decide⟩,rfl,C5.out,B5.out,G5.out⟩
 ·as_aux_lemma =>
  go_wp2_with fail
  refine (HWD.o _ C5.out (HR.o.below B5.out hB)).mono ?_
  rintro e w6 ⟨s,hs,hls,rfl,c6,b6,g6⟩
  have HF:=Hd (Zdz hls hs);have C6:=Hd c6;have B6:=Hd (B5.out.trans b6);have G6:=Hd (G5.out.trans g6)
  clear hls c6 b6 g6
  go_wp2_with fail
  go_ret
  exact⟨_,(((show LnK 5 ({ data:=#[119,111,114,100,32] }:ByteArray) from ⟨by decide,by decide⟩).app HF.o):LnK _ _).mono (by decide),rfl,C6.out,B6.out,G6.out⟩
 ·as_aux_lemma =>
  go_wp2_with fail
  refine (HWD.o _ C5.out (HR.o.below B5.out hB)).mono ?_
  rintro e w6 ⟨s,hs,hls,rfl,c6,b6,g6⟩
  have HF:=Hd (Zdz hls hs);have C6:=Hd c6;have B6:=Hd (B5.out.trans b6);have G6:=Hd (G5.out.trans g6)
  clear hls c6 b6 g6
  go_wp2_with fail
  go_ret
  exact⟨_,(((show LnK 5 ({ data:=#[119,111,114,100,32] }:ByteArray) from ⟨by decide,by decide⟩).app HF.o):LnK _ _).mono (by decide),rfl,C6.out,B6.out,G6.out⟩
 ·as_aux_lemma =>
  go_wp2_with fail
  go_ret
  exact⟨_,⟨by decide,by decide⟩,rfl,C5.out,B5.out,G5.out⟩
 ·as_aux_lemma =>
  go_wp2_with fail
  go_ret
  exact⟨_,⟨by decide,by decide⟩,rfl,C5.out,B5.out,G5.out⟩
 ·as_aux_lemma =>
  go_wp2_with fail
  refine (HBL.o 5 _ (by decide) (by decide) C5.out (HR.o.below B5.out hB)).mono ?_
  rintro e w6 ⟨z,hz,rfl,c6,b6,g6⟩
  have hi1:I64 (z:Int):=by unfold I64;omega
  have h1:=HFM.o z (by omega) w6
  obtain⟨sz,hsz⟩:∃ s,Zd (Lib.itoa (z:Int))=s:=⟨_,rfl⟩
  have hzl:LnK 21 sz:=hsz ▸ Yl hi1
  have hz1:=hzl.1
  rw[hsz] at h1
  have H6:=Hd h1;have HF:=Hd hzl;have C6:=Hd c6;have B6:=Hd (B5.out.trans b6);have G6:=Hd (G5.out.trans g6)
  clear h1 hzl c6 b6 g6 hsz hi1 hz
  go_wp2_with fail
  refine H6.o.mono ?_
  rintro e w7 ⟨rfl,b7⟩
  go_wp2_with fail
  go_ret
  exact⟨_,(((show LnK 5 ({ data:=#[103,114,111,119,32] }:ByteArray) from ⟨by decide,by decide⟩).app HF.o):LnK _ _).mono (by decide),rfl,C6.out.below b7,B6.out.trans (b7.mono (Nat.le_of_lt C6.out.1)),ZZ G6.out (b7.mono B6.out.size)⟩
 ·as_aux_lemma =>
  go_wp2_with fail
  refine (HBL.o 5 _ (by decide) (by decide) C5.out (HR.o.below B5.out hB)).mono ?_
  rintro e w6 ⟨z,hz,rfl,c6,b6,g6⟩
  have hi1:I64 (z:Int):=by unfold I64;omega
  have h1:=HFM.o z (by omega) w6
  obtain⟨sz,hsz⟩:∃ s,Zd (Lib.itoa (z:Int))=s:=⟨_,rfl⟩
  have hzl:LnK 21 sz:=hsz ▸ Yl hi1
  have hz1:=hzl.1
  rw[hsz] at h1
  have H6:=Hd h1;have HF:=Hd hzl;have C6:=Hd c6;have B6:=Hd (B5.out.trans b6);have G6:=Hd (G5.out.trans g6)
  clear h1 hzl c6 b6 g6 hsz hi1 hz
  go_wp2_with fail
  refine H6.o.mono ?_
  rintro e w7 ⟨rfl,b7⟩
  go_wp2_with fail
  go_ret
  exact⟨_,(((show LnK 5 ({ data:=#[103,114,111,119,32] }:ByteArray) from ⟨by decide,by decide⟩).app HF.o):LnK _ _).mono (by decide),rfl,C6.out.below b7,B6.out.trans (b7.mono (Nat.le_of_lt C6.out.1)),ZZ G6.out (b7.mono B6.out.size)⟩
 ·as_aux_lemma =>
  have hp:=C5.out.1
  have hsz5:=B5.out.size
  have bA:=(Below.refl w5.heap.size w5).alloc nlr (.cells #[.string { data:=#[97] },.string { data:=#[98] },.string { data:=#[99] }] 9)
  have hst:=HST.o [({ data:=#[97] }:ByteArray),({ data:=#[98] }:ByteArray),({ data:=#[99] }:ByteArray)] w5.heap.size 3 3 (w5.alloc (.cells #[.string { data:=#[97] },.string { data:=#[98] },.string { data:=#[99] }] 9)) rfl (by decide) (by decide) (C5.out.below bA) ((HR.o.below B5.out hB).below bA (by omega)) (QS [({ data:=#[97] }:ByteArray),({ data:=#[98] }:ByteArray),({ data:=#[99] }:ByteArray)] #[.string { data:=#[97] },.string { data:=#[98] },.string { data:=#[99] }] rfl w5 p hp)
  obtain⟨w6,hw6⟩:∃ z,w5.alloc (.cells #[.string { data:=#[97] },.string { data:=#[98] },.string { data:=#[99] }] 9)=z:=⟨_,rfl⟩
  rw[hw6] at bA hst
  have HST6:=Hd hst;have BA:=Hd bA;have HW6:=Hd hw6;have HP:=Hd hp
  clear hst bA hw6
  go_wp2_with (refine Great.wpList_buildSliceTo rfl 23 9 3 _ rfl _ rfl _ rfl (by as_aux_lemma=>kernel_rfl) #[.string { data:=#[97] },.string { data:=#[98] },.string { data:=#[99] }] (by as_aux_lemma=>kernel_rfl) ?_;simp only[Act.put,List.setIfInBounds_toArray,List.set_cons_succ,List.set_cons_zero])
  rw[HW6.o]
  refine HST6.o.mono ?_
  rintro e w7 ⟨s,hsm,rfl,c7,b7,g7⟩
  have hsl:LnK 1 s:=Jk (xs:=[({ data:=#[97] }:ByteArray),({ data:=#[98] }:ByteArray),({ data:=#[99] }:ByteArray)]) (by decide) s hsm
  have hsl1:=hsl.1
  have HSM:=Hd hsl;have C7:=Hd c7;have B7:=Hd ((B5.out.trans (BA.out.mono (Nat.le_of_lt HP.o))).trans b7);have G7:=Hd ((ZZ G5.out (BA.out.mono hsz5)).trans g7)
  clear hsl hsm c7 b7 g7
  go_wp2_with fail
  go_ret
  exact⟨_,(((((show LnK 6 ({ data:=#[102,105,120,101,100,32] }:ByteArray) from ⟨by decide,by decide⟩).app (HSM.o:LnK 1 s)).app (show LnK 1 ({ data:=#[32] }:ByteArray) from ⟨by decide,by decide⟩)).app HD.o):LnK _ _).mono (by decide),rfl,C7.out,B7.out,G7.out⟩
 ·as_aux_lemma =>
  go_wp2_with fail
  go_ret
  exact⟨_,⟨by decide,by decide⟩,rfl,C5.out,B5.out,G5.out⟩
 ·as_aux_lemma =>
  go_wp2_with fail
  go_ret
  exact⟨_,⟨by decide,by decide⟩,rfl,C5.out,B5.out,G5.out⟩
 ·as_aux_lemma =>
  have hp:=C5.out.1
  have hsz5:=B5.out.size
  have bA:=(Below.refl w5.heap.size w5).alloc nlr (.cells #[.string { data:=#[116,117,114,110] },.string { data:=#[99,108,111,115,101] }] 9)
  have hst:=HST.o [({ data:=#[116,117,114,110] }:ByteArray),({ data:=#[99,108,111,115,101] }:ByteArray)] w5.heap.size 2 2 (w5.alloc (.cells #[.string { data:=#[116,117,114,110] },.string { data:=#[99,108,111,115,101] }] 9)) rfl (by decide) (by decide) (C5.out.below bA) ((HR.o.below B5.out hB).below bA (by omega)) (QS [({ data:=#[116,117,114,110] }:ByteArray),({ data:=#[99,108,111,115,101] }:ByteArray)] #[.string { data:=#[116,117,114,110] },.string { data:=#[99,108,111,115,101] }] rfl w5 p hp)
  obtain⟨w6,hw6⟩:∃ z,w5.alloc (.cells #[.string { data:=#[116,117,114,110] },.string { data:=#[99,108,111,115,101] }] 9)=z:=⟨_,rfl⟩
  rw[hw6] at bA hst
  have HST6:=Hd hst;have BA:=Hd bA;have HW6:=Hd hw6;have HP:=Hd hp
  clear hst bA hw6
  go_wp2_with (refine Great.wpList_buildSliceTo rfl 23 9 2 _ rfl _ rfl _ rfl (by as_aux_lemma=>kernel_rfl) #[.string { data:=#[116,117,114,110] },.string { data:=#[99,108,111,115,101] }] (by as_aux_lemma=>kernel_rfl) ?_;simp only[Act.put,List.setIfInBounds_toArray,List.set_cons_succ,List.set_cons_zero])
  rw[HW6.o]
  refine HST6.o.mono ?_
  rintro e w7 ⟨s,hsm,rfl,c7,b7,g7⟩
  have hsl:LnK 5 s:=Jk (xs:=[({ data:=#[116,117,114,110] }:ByteArray),({ data:=#[99,108,111,115,101] }:ByteArray)]) (by decide) s hsm
  have hsl1:=hsl.1
  have HSM:=Hd hsl;have C7:=Hd c7;have B7:=Hd ((B5.out.trans (BA.out.mono (Nat.le_of_lt HP.o))).trans b7);have G7:=Hd ((ZZ G5.out (BA.out.mono hsz5)).trans g7)
  clear hsl hsm c7 b7 g7
  go_wp2_with fail
  go_ret
  exact⟨_,((HSM.o:LnK 5 s):LnK _ _).mono (by decide),rfl,C7.out,B7.out,G7.out⟩
 ·as_aux_lemma =>
  go_wp2_with fail
  go_ret
  exact⟨_,((((show LnK 6 ({ data:=#[115,104,105,102,116,32] }:ByteArray) from ⟨by decide,by decide⟩)).app HA.o:LnK _ _)).mono (by decide),rfl,C5.out,B5.out,G5.out⟩
 ·as_aux_lemma =>
  have hp:=C5.out.1
  have hsz5:=B5.out.size
  have bA:=(Below.refl w5.heap.size w5).alloc nlr (.cells #[.string { data:=#[115,101,108,102,32] },.string { data:=#[102,111,108,100,32] }] 9)
  have hst:=HST.o [({ data:=#[115,101,108,102,32] }:ByteArray),({ data:=#[102,111,108,100,32] }:ByteArray)] w5.heap.size 2 2 (w5.alloc (.cells #[.string { data:=#[115,101,108,102,32] },.string { data:=#[102,111,108,100,32] }] 9)) rfl (by decide) (by decide) (C5.out.below bA) ((HR.o.below B5.out hB).below bA (by omega)) (QS [({ data:=#[115,101,108,102,32] }:ByteArray),({ data:=#[102,111,108,100,32] }:ByteArray)] #[.string { data:=#[115,101,108,102,32] },.string { data:=#[102,111,108,100,32] }] rfl w5 p hp)
  obtain⟨w6,hw6⟩:∃ z,w5.alloc (.cells #[.string { data:=#[115,101,108,102,32] },.string { data:=#[102,111,108,100,32] }] 9)=z:=⟨_,rfl⟩
  rw[hw6] at bA hst
  have HST6:=Hd hst;have BA:=Hd bA;have HW6:=Hd hw6;have HP:=Hd hp
  clear hst bA hw6
  go_wp2_with (refine Great.wpList_buildSliceTo rfl 23 9 2 _ rfl _ rfl _ rfl (by as_aux_lemma=>kernel_rfl) #[.string { data:=#[115,101,108,102,32] },.string { data:=#[102,111,108,100,32] }] (by as_aux_lemma=>kernel_rfl) ?_;simp only[Act.put,List.setIfInBounds_toArray,List.set_cons_succ,List.set_cons_zero])
  rw[HW6.o]
  refine HST6.o.mono ?_
  rintro e w7 ⟨s,hsm,rfl,c7,b7,g7⟩
  have hsl:LnK 5 s:=Jk (xs:=[({ data:=#[115,101,108,102,32] }:ByteArray),({ data:=#[102,111,108,100,32] }:ByteArray)]) (by decide) s hsm
  have hsl1:=hsl.1
  have HSM:=Hd hsl;have C7:=Hd c7;have B7:=Hd ((B5.out.trans (BA.out.mono (Nat.le_of_lt HP.o))).trans b7);have G7:=Hd ((ZZ G5.out (BA.out.mono hsz5)).trans g7)
  clear hsl hsm c7 b7 g7
  go_wp2_with fail
  go_ret
  exact⟨_,(((HSM.o:LnK 5 s).app HD.o):LnK _ _).mono (by decide),rfl,C7.out,B7.out,G7.out⟩
 ·as_aux_lemma =>
  go_wp2_with fail
  go_ret
  exact⟨_,((((((show LnK 6 ({ data:=#[115,108,111,112,101,32] }:ByteArray) from ⟨by decide,by decide⟩)).app HA.o).app (show LnK 3 ({ data:=#[32,57,32] }:ByteArray) from ⟨by decide,by decide⟩)).app HD.o:LnK _ _)).mono (by decide),rfl,C5.out,B5.out,G5.out⟩
 ·as_aux_lemma =>
  have hp:=C5.out.1
  have hsz5:=B5.out.size
  have bA:=(Below.refl w5.heap.size w5).alloc nlr (.cells #[.string { data:=#[97] },.string { data:=#[98] },.string { data:=#[97,98] }] 9)
  have hst:=HST.o [({ data:=#[97] }:ByteArray),({ data:=#[98] }:ByteArray),({ data:=#[97,98] }:ByteArray)] w5.heap.size 3 3 (w5.alloc (.cells #[.string { data:=#[97] },.string { data:=#[98] },.string { data:=#[97,98] }] 9)) rfl (by decide) (by decide) (C5.out.below bA) ((HR.o.below B5.out hB).below bA (by omega)) (QS [({ data:=#[97] }:ByteArray),({ data:=#[98] }:ByteArray),({ data:=#[97,98] }:ByteArray)] #[.string { data:=#[97] },.string { data:=#[98] },.string { data:=#[97,98] }] rfl w5 p hp)
  obtain⟨w6,hw6⟩:∃ z,w5.alloc (.cells #[.string { data:=#[97] },.string { data:=#[98] },.string { data:=#[97,98] }] 9)=z:=⟨_,rfl⟩
  rw[hw6] at bA hst
  have HST6:=Hd hst;have BA:=Hd bA;have HW6:=Hd hw6;have HP:=Hd hp
  clear hst bA hw6
  go_wp2_with (refine Great.wpList_buildSliceTo rfl 23 9 3 _ rfl _ rfl _ rfl (by as_aux_lemma=>kernel_rfl) #[.string { data:=#[97] },.string { data:=#[98] },.string { data:=#[97,98] }] (by as_aux_lemma=>kernel_rfl) ?_;simp only[Act.put,List.setIfInBounds_toArray,List.set_cons_succ,List.set_cons_zero])
  rw[HW6.o]
  refine HST6.o.mono ?_
  rintro e w7 ⟨s,hsm,rfl,c7,b7,g7⟩
  have hsl:LnK 2 s:=Jk (xs:=[({ data:=#[97] }:ByteArray),({ data:=#[98] }:ByteArray),({ data:=#[97,98] }:ByteArray)]) (by decide) s hsm
  have hsl1:=hsl.1
  have HSM:=Hd hsl;have C7:=Hd c7;have B7:=Hd ((B5.out.trans (BA.out.mono (Nat.le_of_lt HP.o))).trans b7);have G7:=Hd ((ZZ G5.out (BA.out.mono hsz5)).trans g7)
  clear hsl hsm c7 b7 g7
  go_wp2_with fail
  go_ret
  exact⟨_,(((show LnK 7 ({ data:=#[100,101,114,105,118,101,32] }:ByteArray) from ⟨by decide,by decide⟩).app (HSM.o:LnK 2 s)):LnK _ _).mono (by decide),rfl,C7.out,B7.out,G7.out⟩
 ·as_aux_lemma =>
  have hp:=C5.out.1
  have hsz5:=B5.out.size
  have bA:=(Below.refl w5.heap.size w5).alloc nlr (.cells #[.string { data:=#[115,104,111,119] },.string { data:=#[108,105,110,101] },.string { data:=#[115,117,98,115,116] },.string { data:=#[112,97,114,116,115] }] 9)
  have hst:=HST.o [({ data:=#[115,104,111,119] }:ByteArray),({ data:=#[108,105,110,101] }:ByteArray),({ data:=#[115,117,98,115,116] }:ByteArray),({ data:=#[112,97,114,116,115] }:ByteArray)] w5.heap.size 4 4 (w5.alloc (.cells #[.string { data:=#[115,104,111,119] },.string { data:=#[108,105,110,101] },.string { data:=#[115,117,98,115,116] },.string { data:=#[112,97,114,116,115] }] 9)) rfl (by decide) (by decide) (C5.out.below bA) ((HR.o.below B5.out hB).below bA (by omega)) (QS [({ data:=#[115,104,111,119] }:ByteArray),({ data:=#[108,105,110,101] }:ByteArray),({ data:=#[115,117,98,115,116] }:ByteArray),({ data:=#[112,97,114,116,115] }:ByteArray)] #[.string { data:=#[115,104,111,119] },.string { data:=#[108,105,110,101] },.string { data:=#[115,117,98,115,116] },.string { data:=#[112,97,114,116,115] }] rfl w5 p hp)
  obtain⟨w6,hw6⟩:∃ z,w5.alloc (.cells #[.string { data:=#[115,104,111,119] },.string { data:=#[108,105,110,101] },.string { data:=#[115,117,98,115,116] },.string { data:=#[112,97,114,116,115] }] 9)=z:=⟨_,rfl⟩
  rw[hw6] at bA hst
  have HST6:=Hd hst;have BA:=Hd bA;have HW6:=Hd hw6;have HP:=Hd hp
  clear hst bA hw6
  go_wp2_with (refine Great.wpList_buildSliceTo rfl 23 9 4 _ rfl _ rfl _ rfl (by as_aux_lemma=>kernel_rfl) #[.string { data:=#[115,104,111,119] },.string { data:=#[108,105,110,101] },.string { data:=#[115,117,98,115,116] },.string { data:=#[112,97,114,116,115] }] (by as_aux_lemma=>kernel_rfl) ?_;simp only[Act.put,List.setIfInBounds_toArray,List.set_cons_succ,List.set_cons_zero])
  rw[HW6.o]
  refine HST6.o.mono ?_
  rintro e w7 ⟨s,hsm,rfl,c7,b7,g7⟩
  have hsl:LnK 5 s:=Jk (xs:=[({ data:=#[115,104,111,119] }:ByteArray),({ data:=#[108,105,110,101] }:ByteArray),({ data:=#[115,117,98,115,116] }:ByteArray),({ data:=#[112,97,114,116,115] }:ByteArray)]) (by decide) s hsm
  have hsl1:=hsl.1
  have HSM:=Hd hsl;have C7:=Hd c7;have B7:=Hd ((B5.out.trans (BA.out.mono (Nat.le_of_lt HP.o))).trans b7);have G7:=Hd ((ZZ G5.out (BA.out.mono hsz5)).trans g7)
  clear hsl hsm c7 b7 g7
  go_wp2_with fail
  go_ret
  exact⟨_,((HSM.o:LnK 5 s):LnK _ _).mono (by decide),rfl,C7.out,B7.out,G7.out⟩
 ·as_aux_lemma =>
  go_wp2_with fail
  go_ret
  exact⟨_,((((show LnK 8 ({ data:=#[102,97,99,116,111,114,115,32] }:ByteArray) from ⟨by decide,by decide⟩)).app HA.o:LnK _ _)).mono (by decide),rfl,C5.out,B5.out,G5.out⟩
 ·as_aux_lemma =>
  have hp:=C5.out.1
  have hsz5:=B5.out.size
  have bA:=(Below.refl w5.heap.size w5).alloc nlr (.cells #[.string { data:=#[97] },.string { data:=#[98] },.string { data:=#[97,98] },.string { data:=#[98,97] }] 9)
  have hst:=HST.o [({ data:=#[97] }:ByteArray),({ data:=#[98] }:ByteArray),({ data:=#[97,98] }:ByteArray),({ data:=#[98,97] }:ByteArray)] w5.heap.size 4 4 (w5.alloc (.cells #[.string { data:=#[97] },.string { data:=#[98] },.string { data:=#[97,98] },.string { data:=#[98,97] }] 9)) rfl (by decide) (by decide) (C5.out.below bA) ((HR.o.below B5.out hB).below bA (by omega)) (QS [({ data:=#[97] }:ByteArray),({ data:=#[98] }:ByteArray),({ data:=#[97,98] }:ByteArray),({ data:=#[98,97] }:ByteArray)] #[.string { data:=#[97] },.string { data:=#[98] },.string { data:=#[97,98] },.string { data:=#[98,97] }] rfl w5 p hp)
  obtain⟨w6,hw6⟩:∃ z,w5.alloc (.cells #[.string { data:=#[97] },.string { data:=#[98] },.string { data:=#[97,98] },.string { data:=#[98,97] }] 9)=z:=⟨_,rfl⟩
  rw[hw6] at bA hst
  have HST6:=Hd hst;have BA:=Hd bA;have HW6:=Hd hw6;have HP:=Hd hp
  clear hst bA hw6
  go_wp2_with (refine Great.wpList_buildSliceTo rfl 23 9 4 _ rfl _ rfl _ rfl (by as_aux_lemma=>kernel_rfl) #[.string { data:=#[97] },.string { data:=#[98] },.string { data:=#[97,98] },.string { data:=#[98,97] }] (by as_aux_lemma=>kernel_rfl) ?_;simp only[Act.put,List.setIfInBounds_toArray,List.set_cons_succ,List.set_cons_zero])
  rw[HW6.o]
  refine HST6.o.mono ?_
  rintro e w7 ⟨s,hsm,rfl,c7,b7,g7⟩
  have hsl:LnK 2 s:=Jk (xs:=[({ data:=#[97] }:ByteArray),({ data:=#[98] }:ByteArray),({ data:=#[97,98] }:ByteArray),({ data:=#[98,97] }:ByteArray)]) (by decide) s hsm
  have hsl1:=hsl.1
  have HSM:=Hd hsl;have C7:=Hd c7;have B7:=Hd ((B5.out.trans (BA.out.mono (Nat.le_of_lt HP.o))).trans b7);have G7:=Hd ((ZZ G5.out (BA.out.mono hsz5)).trans g7)
  clear hsl hsm c7 b7 g7
  go_wp2_with fail
  go_ret
  exact⟨_,(((show LnK 8 ({ data:=#[114,101,116,117,114,110,115,32] }:ByteArray) from ⟨by decide,by decide⟩).app (HSM.o:LnK 2 s)):LnK _ _).mono (by decide),rfl,C7.out,B7.out,G7.out⟩
 ·as_aux_lemma =>
  go_wp2_with fail
  refine (HBG.o _ C5.out (HR.o.below B5.out hB)).mono ?_
  rintro e w6 ⟨z,hz,rfl,c6,b6,g6⟩
  have hi1:I64 (z:Int):=by unfold I64;omega
  have h1:=HFM.o z (by omega) w6
  obtain⟨sz,hsz⟩:∃ s,Zd (Lib.itoa (z:Int))=s:=⟨_,rfl⟩
  have hzl:LnK 21 sz:=hsz ▸ Yl hi1
  have hz1:=hzl.1
  rw[hsz] at h1
  have H6:=Hd h1;have HF:=Hd hzl;have C6:=Hd c6;have B6:=Hd (B5.out.trans b6);have G6:=Hd (G5.out.trans g6)
  clear h1 hzl c6 b6 g6 hsz hi1 hz
  go_wp2_with fail
  refine H6.o.mono ?_
  rintro e w7 ⟨rfl,b7⟩
  go_wp2_with fail
  go_ret
  exact⟨_,(((show LnK 7 ({ data:=#[110,117,109,98,101,114,32] }:ByteArray) from ⟨by decide,by decide⟩).app HF.o):LnK _ _).mono (by decide),rfl,C6.out.below b7,B6.out.trans (b7.mono (Nat.le_of_lt C6.out.1)),ZZ G6.out (b7.mono B6.out.size)⟩
 ·as_aux_lemma =>
  go_wp2_with fail
  go_ret
  exact⟨_,((((((show LnK 5 ({ data:=#[103,111,108,100,32] }:ByteArray) from ⟨by decide,by decide⟩)).app HA.o).app (show LnK 2 ({ data:=#[32,45] }:ByteArray) from ⟨by decide,by decide⟩)).app HA.o:LnK _ _)).mono (by decide),rfl,C5.out,B5.out,G5.out⟩
 ·as_aux_lemma =>
  go_wp2_with fail
  go_ret
  exact⟨_,((((((show LnK 10 ({ data:=#[113,117,111,116,105,101,110,116,115,32] }:ByteArray) from ⟨by decide,by decide⟩)).app HA.o).app (show LnK 1 ({ data:=#[32] }:ByteArray) from ⟨by decide,by decide⟩)).app HD.o:LnK _ _)).mono (by decide),rfl,C5.out,B5.out,G5.out⟩
 ·as_aux_lemma =>
  go_wp2_with fail
  go_ret
  exact⟨_,(((((((show LnK 5 ({ data:=#[103,97,112,115,32] }:ByteArray) from ⟨by decide,by decide⟩)).app HA.o).app (show LnK 1 ({ data:=#[32] }:ByteArray) from ⟨by decide,by decide⟩)).app HD.o).app (show LnK 2 ({ data:=#[32,55] }:ByteArray) from ⟨by decide,by decide⟩):LnK _ _)).mono (by decide),rfl,C5.out,B5.out,G5.out⟩
 ·as_aux_lemma =>
  have hp:=C5.out.1
  have hsz5:=B5.out.size
  have bA:=(Below.refl w5.heap.size w5).alloc nlr (.cells #[.string { data:=#[] },.string { data:=#[35,32,110,111,116,101] },.string { data:=#[115,104,111,119,32,49] },.string { data:=#[103,114,111,119,32,120] },.string { data:=#[115,104,105,102,116] },.string { data:=#[102,105,120,101,100,32,97,32,120] },.string { data:=#[119,104,97,116] },.string { data:=#[119,111,114,100] },.string { data:=#[103,111,108,100,32,49] },.string { data:=#[115,108,111,112,101,32,49,32,50] },.string { data:=#[119,111,114,100,32,101] }] 9)
  have hst:=HST.o [({ data:=#[] }:ByteArray),({ data:=#[35,32,110,111,116,101] }:ByteArray),({ data:=#[115,104,111,119,32,49] }:ByteArray),({ data:=#[103,114,111,119,32,120] }:ByteArray),({ data:=#[115,104,105,102,116] }:ByteArray),({ data:=#[102,105,120,101,100,32,97,32,120] }:ByteArray),({ data:=#[119,104,97,116] }:ByteArray),({ data:=#[119,111,114,100] }:ByteArray),({ data:=#[103,111,108,100,32,49] }:ByteArray),({ data:=#[115,108,111,112,101,32,49,32,50] }:ByteArray),({ data:=#[119,111,114,100,32,101] }:ByteArray)] w5.heap.size 11 11 (w5.alloc (.cells #[.string { data:=#[] },.string { data:=#[35,32,110,111,116,101] },.string { data:=#[115,104,111,119,32,49] },.string { data:=#[103,114,111,119,32,120] },.string { data:=#[115,104,105,102,116] },.string { data:=#[102,105,120,101,100,32,97,32,120] },.string { data:=#[119,104,97,116] },.string { data:=#[119,111,114,100] },.string { data:=#[103,111,108,100,32,49] },.string { data:=#[115,108,111,112,101,32,49,32,50] },.string { data:=#[119,111,114,100,32,101] }] 9)) rfl (by decide) (by decide) (C5.out.below bA) ((HR.o.below B5.out hB).below bA (by omega)) (QS [({ data:=#[] }:ByteArray),({ data:=#[35,32,110,111,116,101] }:ByteArray),({ data:=#[115,104,111,119,32,49] }:ByteArray),({ data:=#[103,114,111,119,32,120] }:ByteArray),({ data:=#[115,104,105,102,116] }:ByteArray),({ data:=#[102,105,120,101,100,32,97,32,120] }:ByteArray),({ data:=#[119,104,97,116] }:ByteArray),({ data:=#[119,111,114,100] }:ByteArray),({ data:=#[103,111,108,100,32,49] }:ByteArray),({ data:=#[115,108,111,112,101,32,49,32,50] }:ByteArray),({ data:=#[119,111,114,100,32,101] }:ByteArray)] #[.string { data:=#[] },.string { data:=#[35,32,110,111,116,101] },.string { data:=#[115,104,111,119,32,49] },.string { data:=#[103,114,111,119,32,120] },.string { data:=#[115,104,105,102,116] },.string { data:=#[102,105,120,101,100,32,97,32,120] },.string { data:=#[119,104,97,116] },.string { data:=#[119,111,114,100] },.string { data:=#[103,111,108,100,32,49] },.string { data:=#[115,108,111,112,101,32,49,32,50] },.string { data:=#[119,111,114,100,32,101] }] rfl w5 p hp)
  obtain⟨w6,hw6⟩:∃ z,w5.alloc (.cells #[.string { data:=#[] },.string { data:=#[35,32,110,111,116,101] },.string { data:=#[115,104,111,119,32,49] },.string { data:=#[103,114,111,119,32,120] },.string { data:=#[115,104,105,102,116] },.string { data:=#[102,105,120,101,100,32,97,32,120] },.string { data:=#[119,104,97,116] },.string { data:=#[119,111,114,100] },.string { data:=#[103,111,108,100,32,49] },.string { data:=#[115,108,111,112,101,32,49,32,50] },.string { data:=#[119,111,114,100,32,101] }] 9)=z:=⟨_,rfl⟩
  rw[hw6] at bA hst
  have HST6:=Hd hst;have BA:=Hd bA;have HW6:=Hd hw6;have HP:=Hd hp
  clear hst bA hw6
  go_wp2_with (refine Great.wpList_buildSliceTo rfl 23 9 11 _ rfl _ rfl _ rfl (by as_aux_lemma=>kernel_rfl) #[.string { data:=#[] },.string { data:=#[35,32,110,111,116,101] },.string { data:=#[115,104,111,119,32,49] },.string { data:=#[103,114,111,119,32,120] },.string { data:=#[115,104,105,102,116] },.string { data:=#[102,105,120,101,100,32,97,32,120] },.string { data:=#[119,104,97,116] },.string { data:=#[119,111,114,100] },.string { data:=#[103,111,108,100,32,49] },.string { data:=#[115,108,111,112,101,32,49,32,50] },.string { data:=#[119,111,114,100,32,101] }] (by as_aux_lemma=>kernel_rfl) ?_;simp only[Act.put,List.setIfInBounds_toArray,List.set_cons_succ,List.set_cons_zero])
  rw[HW6.o]
  refine HST6.o.mono ?_
  rintro e w7 ⟨s,hsm,rfl,c7,b7,g7⟩
  have hsl:LnK 9 s:=Jk (xs:=[({ data:=#[] }:ByteArray),({ data:=#[35,32,110,111,116,101] }:ByteArray),({ data:=#[115,104,111,119,32,49] }:ByteArray),({ data:=#[103,114,111,119,32,120] }:ByteArray),({ data:=#[115,104,105,102,116] }:ByteArray),({ data:=#[102,105,120,101,100,32,97,32,120] }:ByteArray),({ data:=#[119,104,97,116] }:ByteArray),({ data:=#[119,111,114,100] }:ByteArray),({ data:=#[103,111,108,100,32,49] }:ByteArray),({ data:=#[115,108,111,112,101,32,49,32,50] }:ByteArray),({ data:=#[119,111,114,100,32,101] }:ByteArray)]) (by decide) s hsm
  have hsl1:=hsl.1
  have HSM:=Hd hsl;have C7:=Hd c7;have B7:=Hd ((B5.out.trans (BA.out.mono (Nat.le_of_lt HP.o))).trans b7);have G7:=Hd ((ZZ G5.out (BA.out.mono hsz5)).trans g7)
  clear hsl hsm c7 b7 g7
  go_wp2_with fail
  go_ret
  exact⟨_,((HSM.o:LnK 9 s):LnK _ _).mono (by decide),rfl,C7.out,B7.out,G7.out⟩
 ·as_aux_lemma =>
  have hp:=C5.out.1
  have hsz5:=B5.out.size
  have bA:=(Below.refl w5.heap.size w5).alloc nlr (.cells #[.string { data:=#[] },.string { data:=#[35,32,110,111,116,101] },.string { data:=#[115,104,111,119,32,49] },.string { data:=#[103,114,111,119,32,120] },.string { data:=#[115,104,105,102,116] },.string { data:=#[102,105,120,101,100,32,97,32,120] },.string { data:=#[119,104,97,116] },.string { data:=#[119,111,114,100] },.string { data:=#[103,111,108,100,32,49] },.string { data:=#[115,108,111,112,101,32,49,32,50] },.string { data:=#[119,111,114,100,32,101] }] 9)
  have hst:=HST.o [({ data:=#[] }:ByteArray),({ data:=#[35,32,110,111,116,101] }:ByteArray),({ data:=#[115,104,111,119,32,49] }:ByteArray),({ data:=#[103,114,111,119,32,120] }:ByteArray),({ data:=#[115,104,105,102,116] }:ByteArray),({ data:=#[102,105,120,101,100,32,97,32,120] }:ByteArray),({ data:=#[119,104,97,116] }:ByteArray),({ data:=#[119,111,114,100] }:ByteArray),({ data:=#[103,111,108,100,32,49] }:ByteArray),({ data:=#[115,108,111,112,101,32,49,32,50] }:ByteArray),({ data:=#[119,111,114,100,32,101] }:ByteArray)] w5.heap.size 11 11 (w5.alloc (.cells #[.string { data:=#[] },.string { data:=#[35,32,110,111,116,101] },.string { data:=#[115,104,111,119,32,49] },.string { data:=#[103,114,111,119,32,120] },.string { data:=#[115,104,105,102,116] },.string { data:=#[102,105,120,101,100,32,97,32,120] },.string { data:=#[119,104,97,116] },.string { data:=#[119,111,114,100] },.string { data:=#[103,111,108,100,32,49] },.string { data:=#[115,108,111,112,101,32,49,32,50] },.string { data:=#[119,111,114,100,32,101] }] 9)) rfl (by decide) (by decide) (C5.out.below bA) ((HR.o.below B5.out hB).below bA (by omega)) (QS [({ data:=#[] }:ByteArray),({ data:=#[35,32,110,111,116,101] }:ByteArray),({ data:=#[115,104,111,119,32,49] }:ByteArray),({ data:=#[103,114,111,119,32,120] }:ByteArray),({ data:=#[115,104,105,102,116] }:ByteArray),({ data:=#[102,105,120,101,100,32,97,32,120] }:ByteArray),({ data:=#[119,104,97,116] }:ByteArray),({ data:=#[119,111,114,100] }:ByteArray),({ data:=#[103,111,108,100,32,49] }:ByteArray),({ data:=#[115,108,111,112,101,32,49,32,50] }:ByteArray),({ data:=#[119,111,114,100,32,101] }:ByteArray)] #[.string { data:=#[] },.string { data:=#[35,32,110,111,116,101] },.string { data:=#[115,104,111,119,32,49] },.string { data:=#[103,114,111,119,32,120] },.string { data:=#[115,104,105,102,116] },.string { data:=#[102,105,120,101,100,32,97,32,120] },.string { data:=#[119,104,97,116] },.string { data:=#[119,111,114,100] },.string { data:=#[103,111,108,100,32,49] },.string { data:=#[115,108,111,112,101,32,49,32,50] },.string { data:=#[119,111,114,100,32,101] }] rfl w5 p hp)
  obtain⟨w6,hw6⟩:∃ z,w5.alloc (.cells #[.string { data:=#[] },.string { data:=#[35,32,110,111,116,101] },.string { data:=#[115,104,111,119,32,49] },.string { data:=#[103,114,111,119,32,120] },.string { data:=#[115,104,105,102,116] },.string { data:=#[102,105,120,101,100,32,97,32,120] },.string { data:=#[119,104,97,116] },.string { data:=#[119,111,114,100] },.string { data:=#[103,111,108,100,32,49] },.string { data:=#[115,108,111,112,101,32,49,32,50] },.string { data:=#[119,111,114,100,32,101] }] 9)=z:=⟨_,rfl⟩
  rw[hw6] at bA hst
  have HST6:=Hd hst;have BA:=Hd bA;have HW6:=Hd hw6;have HP:=Hd hp
  clear hst bA hw6
  go_wp2_with (refine Great.wpList_buildSliceTo rfl 23 9 11 _ rfl _ rfl _ rfl (by as_aux_lemma=>kernel_rfl) #[.string { data:=#[] },.string { data:=#[35,32,110,111,116,101] },.string { data:=#[115,104,111,119,32,49] },.string { data:=#[103,114,111,119,32,120] },.string { data:=#[115,104,105,102,116] },.string { data:=#[102,105,120,101,100,32,97,32,120] },.string { data:=#[119,104,97,116] },.string { data:=#[119,111,114,100] },.string { data:=#[103,111,108,100,32,49] },.string { data:=#[115,108,111,112,101,32,49,32,50] },.string { data:=#[119,111,114,100,32,101] }] (by as_aux_lemma=>kernel_rfl) ?_;simp only[Act.put,List.setIfInBounds_toArray,List.set_cons_succ,List.set_cons_zero])
  rw[HW6.o]
  refine HST6.o.mono ?_
  rintro e w7 ⟨s,hsm,rfl,c7,b7,g7⟩
  have hsl:LnK 9 s:=Jk (xs:=[({ data:=#[] }:ByteArray),({ data:=#[35,32,110,111,116,101] }:ByteArray),({ data:=#[115,104,111,119,32,49] }:ByteArray),({ data:=#[103,114,111,119,32,120] }:ByteArray),({ data:=#[115,104,105,102,116] }:ByteArray),({ data:=#[102,105,120,101,100,32,97,32,120] }:ByteArray),({ data:=#[119,104,97,116] }:ByteArray),({ data:=#[119,111,114,100] }:ByteArray),({ data:=#[103,111,108,100,32,49] }:ByteArray),({ data:=#[115,108,111,112,101,32,49,32,50] }:ByteArray),({ data:=#[119,111,114,100,32,101] }:ByteArray)]) (by decide) s hsm
  have hsl1:=hsl.1
  have HSM:=Hd hsl;have C7:=Hd c7;have B7:=Hd ((B5.out.trans (BA.out.mono (Nat.le_of_lt HP.o))).trans b7);have G7:=Hd ((ZZ G5.out (BA.out.mono hsz5)).trans g7)
  clear hsl hsm c7 b7 g7
  go_wp2_with fail
  go_ret
  exact⟨_,((HSM.o:LnK 9 s):LnK _ _).mono (by decide),rfl,C7.out,B7.out,G7.out⟩
theorem Zay (A:Option Addr) (n c B:Nat) (l:List UInt8) (w:World) (hl:l.length=n) (hn:n≤1048576) (hrd:Rds w B A (byV l)) (hB:B≤w.heap.size) :
  Calls Tryz.prog 6 #[.slice A n c] w fun e w'=>∃ (ps:List ByteArray) (A':Option Addr) (k c':Nat),ps.length=k∧1≤k∧k≤8∧(∀ s∈ps,LnK 100 s)∧e=.returned (.slice A' k c')∧Own w' w.heap.size 9 (.slice A' k c') (ps.map Value.string)∧Below w.heap.size w w':=by
 have hnw:=ZeG A n c B l w hl hn hrd
 have hb:=fun v hcv hrv=>Qj w.heap.size B A n c 8 l v (by decide) (by decide) hl hn hcv hrv hB
 have hli:=fun v hcv hrv=>Zdy w.heap.size B A n c l v hl hn hcv hrv hB
 have HN:=Hd hnw;have HBL:=Hd hb;have HLI:=Hd hli;have HR:=Hd hrd
 clear hnw hb hli hrd hl
 go_enter Tryz.func6,Tryz.ntmps6
 go_wp2_with fail
 refine HN.o.mono ?_
 rintro e w1 ⟨rfl,c1,b1⟩
 have bA:=(Below.refl w1.heap.size w1).alloc nlr (.cells #[] 9)
 have zA:(w1.alloc (.cells #[] 9)).heap.size=w1.heap.size+1:=by simp
 have hp:=c1.1
 have oA:Own (w1.alloc (.cells #[] 9)) (w.heap.size+1) 9 (.slice (some ⟨w1.heap.size,0,none⟩) 0 0) []:=Own.empty (by omega)
 have cA:=c1.below bA
 have b1A:=b1.trans (bA.mono (by omega))
 obtain⟨w2,hw2⟩:∃ z,w1.alloc (.cells #[] 9)=z:=⟨_,rfl⟩
 rw[hw2] at oA cA b1A zA
 have hcl:=HBL.o w2 cA (HR.o.below b1A hB)
 have HCL:=Hd hcl;have OA:=Hd oA;have BA:=Hd b1A;have HW2:=Hd hw2
 clear hcl oA b1A cA c1 b1 bA hw2
 go_wp2_with fail
 rw[HW2.o]
 refine HCL.o.mono ?_
 rintro e w3 ⟨x,hx,rfl,c3,b3,g3⟩
 have o3:=OA.out.gr g3 (by omega)
 have b3:=BA.out.trans b3
 have C3:=Hd c3;have O3:=Hd o3;have B3:=Hd b3
 clear c3 o3 b3 g3 OA BA HCL HW2 zA
 have hx1:IntKind.i64.wrap (1+(x:Int))=((x+1:Nat):Int):=by rw[IntWalk.i64_in _ (by omega)];omega
 go_wp2_with fail
 go_loopw [4,5] (fun v i wr=>∃ (j k c':Nat) (A':Option Addr) (ps:List ByteArray),j+k=x+1∧v=.slice A' k c'∧i=.int .i64 (j:Int)∧ps.length=k∧(∀ s∈ps,LnK 100 s)∧Own wr (w.heap.size+1) 9 (.slice A' k c') (ps.map Value.string)∧CurAt wr w.heap.size A n c∧Below w.heap.size w wr) (fun _ i _=>(intOf i).toNat)
 case atStart=>exact⟨x+1,0,0,_,[],by omega,rfl,by go_num,rfl,(fun s hs=>by cases hs),O3.out,C3.out,B3.out⟩
 case round =>
  clear C3 O3 B3
  obtain⟨j,k,c',A',ps,hjk,rfl,rfl,hpk,hps,how,hcu,hbe⟩:=hrel
  have HPK:=Hd hpk;have HPS:=Hd hps;have HOW:=Hd how;have HCU:=Hd hcu;have HBE:=Hd hbe
  clear hpk hps how hcu hbe
  by_cases hj:0<j
  ·have hj2:(0:Int)<(j:Int):=by omega
   have hcl:=HLI.o wr HCU.o (HR.o.below HBE.o hB)
   have HCL:=Hd hcl;clear hcl
   go_wp2_with fail
   refine HCL.o.mono ?_
   rintro e w4 ⟨s,hs,rfl,c4,b4,g4⟩
   have o4:=HOW.o.gr g4 (by omega)
   have b4:=HBE.o.trans b4
   have HS:=Hd hs;have C4:=Hd c4;have O4:=Hd o4;have B4:=Hd b4
   have s4:w.heap.size+1≤w4.heap.size:=by have:=c4.1;omega
   clear hs c4 o4 b4 g4
   go_wp2_with (at_builtin;refine Zp rfl (.tmp 16) (.tmp 19) 23 rfl _ 16 Tryz.underlying23 Zn rfl rfl O4.out _ rfl rfl k ?n1 ?n2 ?n3 ?n4 ?_)
   case n1=>rw[List.length_map,HPK.o]
   case n2=>omega
   case n3=>decide
   case n4=>exact s4
   intro A2 c2 w5 o5 b5 z5
   rw[show ps.map Value.string++[Value.string s]=(ps++[s]).map Value.string by rw[List.map_append];rfl] at o5
   have O5:=Hd o5;clear o5
   go_wp2_with fail
   go_roundw
   case rel =>
    refine⟨j - 1,k+1,c2,A2,ps++[s],by omega,rfl,?_,by rw[List.length_append,HPK.o];rfl,?_,O5.out,C4.out.low (by omega) b5,B4.out.trans (b5.mono (by omega))⟩
    ·go_num
    ·intro y hy
     rcases List.mem_append.1 hy with h|h
     ·exact HPS.o y h
     ·rw[List.mem_singleton.1 h];exact HS.o
   case measure=>simp[intOf];omega
  ·have hj2:decide ((0:Int)<(j:Int))=false:=decide_eq_false (by omega)
   go_wp2_with fail
   go_ret
   exact⟨ps,A',k,c',HPK.o,by omega,by omega,HPS.o,rfl,HOW.o.lower (by omega),HBE.o⟩
end Go.Proofs.YtocbgldilgemoaaGreatDoor
