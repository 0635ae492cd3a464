/- Fixed points, the program's. No condition but the bounds. -/
import Derived.Test.YtocbgldilgemoaaGreatDoorFix
namespace Go.Proofs.YtocbgldilgemoaaGreatDoor
set_option maxRecDepth 4000
set_option maxHeartbeats 1000000
open Go.RowKit
set_option linter.unusedVariables false
def Qs (n:Nat) (l:List UInt8):Prop:=∀ d∈l,97≤d.toNat∧d.toNat<97+n
theorem ZE {zs:List ByteArray} (h:Zf zs=true):zs.length≤4∧∀ x∈zs,1≤x.size∧x.size≤8∧Qs zs.length (L x):=by
 rw[Zf,Bool.and_eq_true,List.all_eq_true,decide_eq_true_eq] at h
 refine⟨h.2.2,fun x hx=>?_⟩
 have h1:=h.1 x hx
 rw[Qa,Bool.and_eq_true,decide_eq_true_eq,Bool.and_eq_true] at h1
 refine⟨h1.1.1,h1.1.2,fun d hd=>?_⟩
 obtain⟨k,hk⟩:=List.mem_iff_getElem?.1 hd
 have h2:=(Q7 h1.2.1 hk).1
 have h3:=h1.2.2
 rw[Qr,List.all_eq_true] at h3
 have h4:=h3 d hd
 rw[decide_eq_true_eq] at h4
 exact⟨h2,h4⟩
def YP (zs:List ByteArray) (n:Nat):Nat→Nat→List UInt8→List UInt8
 | 0,_,l=>l
 | f+1,k,l=>if l.length<n then YP zs n f (k+1) (l++L (QO zs (l.getD k 0))) else l
def fxL (zs:List ByteArray) (s:ByteArray) (n:Nat):List UInt8:=YP zs n n 1 (L (QO zs ((L s).headD 0)))
theorem Zdb {zs:List ByteArray} {n f k:Nat} {l:List UInt8} (h:n≤l.length):YP zs n f k l=l:=by
 cases f with
 | zero=>rfl
 | succ f=>rw[YP,if_neg (by omega)]
theorem ZfN {zs:List ByteArray} {n f k:Nat} {l:List UInt8} {d:UInt8} (h:l.length<n) (hf:n≤l.length+f) (hd:l[k]? = some d):∃ f',YP zs n f k l=YP zs n f' (k+1) (l++L (QO zs d))∧n≤l.length+f'+1:=by
 cases f with
 | zero=>omega
 | succ f=>exact⟨f,by rw[YP,if_pos h,List.getD_eq_getElem?_getD,hd];rfl,by omega⟩
theorem JA {zs:List ByteArray} {d:UInt8} (h1:97≤d.toNat) (h2:d.toNat<97+zs.length):∃ k,97+k=d.toNat∧zs[k]? = some (QO zs d):=by
 refine⟨d.toNat - 97,by omega,?_⟩
 obtain⟨x,hx⟩:=Zc (l:=zs) (k:=d.toNat - 97) (by omega)
 rw[QO,List.getD_eq_getElem?_getD,hx]
 rfl
theorem ZgQ (zs:List ByteArray) (A:Option Addr) (nz cz B:Nat) (s:ByteArray) (n:Nat) (w:World) (hl:zs.length=nz) (hn:n≤1000) (hsu:Zf zs=true) (hgr:Qb zs s=true) (hrd:Rds w B A (zs.map Value.string)) (hB:B≤w.heap.size) :
  Calls Tryz.prog 126 #[.agg #[.slice A nz cz],.string s,.int .i64 n] w fun e w'=>∃ g m c,e=.returned (.slice (some ⟨g,0,none⟩) m c)∧(fxL zs s n).length=m∧n≤m∧m≤1010∧BR w' w.heap.size 5 g c (fxL zs s n)∧Below w.heap.size w w':=by
 obtain⟨hz4,hz⟩:=ZE hsu
 rw[Qb,Bool.and_eq_true,Bool.and_eq_true,decide_eq_true_eq,decide_eq_true_eq] at hgr
 obtain⟨him,hx2,hxh⟩:=hgr
 obtain⟨k0,d0,hk0,hk04,hd0,hLs,hs1⟩:=Vm him
 have hfx:fxL zs s n=YP zs n n 1 (L (QO zs d0)):=by rw[fxL,hLs];rfl
 rw[hLs] at hx2
 have hx2:1<(QO zs d0).size:=hx2
 have hs0:0<s.size:=by omega
 have hs00:(0:Int)<(s.size:Int):=by omega
 have hsd:s[0]=d0:=by rw[← JM hs0,hLs];rfl
 have hsz2:s.size≤1:=by omega
 have bA:Below w.heap.size w (w.alloc (.cells #[.slice A nz cz] 26)):=(Below.refl _ _).alloc nlr _
 have zA:(w.alloc (.cells #[.slice A nz cz] 26)).heap.size=w.heap.size+1:=by simp
 have h0:=cell_of_row _ _ 0 _ _ (0,0) (heap_alloc_new w (.cells #[.slice A nz cz] 26))
 have himg:∀ (d:UInt8) (v:World),97≤d.toNat→d.toNat<97+zs.length→Rds v B A (zs.map Value.string)→B≤v.heap.size →
   Calls Tryz.prog 142 #[.agg #[.slice A nz cz],.int .u8 (d.toNat:Int)] v fun e v'=>e=.returned (.string (QO zs d))∧Below v.heap.size v v':=by
  intro d v h1 h2 hr hb
  obtain⟨k,hk,hzk⟩:=JA h1 h2
  have:=YM zs A nz cz B k _ v hl hzk (by omega) hr hb
  rwa[hk] at this
 have hm0:QO zs d0∈zs:=by
  obtain⟨k,hk,hzk⟩:=JA (d:=d0) (zs:=zs) (by omega) (by omega)
  exact List.mem_of_getElem? hzk
 obtain⟨x,hx⟩:∃ x,QO zs d0=x:=⟨_,rfl⟩
 have hi0:=himg d0 (w.alloc (.cells #[.slice A nz cz] 26)).drew (by omega) (by omega) ((hrd.below bA hB).dr (Dr.refl _).drew) (by show B≤(w.alloc _).heap.size;omega)
 rw[hx] at hi0 hx2 hfx hm0
 have HI0:=Hd hi0;have HIM:=Hd himg;have H0:=Hd h0;have HRD:=Hd hrd;have HFX:=Hd hfx;have HZ:=Hd hz;have HM0:=Hd hm0
 clear hi0 himg h0 hrd hfx hz hm0 hsu him hxh hd0 hLs hs1 hx
 have hcv:∀ v:World,(convert 9 22 (.string x)).run Tryz.prog v=.ok (.slice (some ⟨v.heap.size,0,none⟩) x.size (grownCap v x.size 0 5)) (Lib.bytesWorld v 5 x) :=
  fun v=>Lib.run_convert_string_bytes v _ _ _ x Tryz.underlying9 Tryz.underlying22 Tryz.underlying5
 go_enter Tryz.func126,Tryz.ntmps126
 go_wp2_with fail
 go_region_with (go_at_call 142;refine HI0.o.mono ?_;rintro e w2 ⟨rfl,b2⟩)
 all_goals
  have z2:=b2.size
  rw[show (w.alloc (.cells #[.slice A nz cz] 26)).drew.heap.size=w.heap.size+1 from zA] at z2
  have bw2:Below w.heap.size w w2:=bA.trans (((Dr.refl _).drew.below).trans (b2.mono (by show w.heap.size≤(w.alloc _).heap.size;omega)))
  have bw3:Below w.heap.size w (Lib.bytesWorld w2 5 x):=bw2.trans ((Lib.bytesWorld_below w2 5 x).mono (by omega))
  have hx8:=(HZ.o x HM0.o).2.1
  have bc3:(Lib.bytesWorld w2 5 x).cell? ⟨w.heap.size,0,none⟩=some (.slice A nz cz) :=
   ((((Dr.refl _).drew.below.trans b2).trans ((Lib.bytesWorld_below w2 5 x).mono b2.size)).cell (p:=⟨w.heap.size,0,none⟩) (by show w.heap.size<(w.alloc _).heap.size;omega)).trans H0.o
  have br3:BR (Lib.bytesWorld w2 5 x) (w.heap.size+1) 5 w2.heap.size (grownCap w2 x.size 0 5) (L x):=(BR.conv w2 5 x (by unfold maxLen;omega)).lower z2
  have z3:w.heap.size+1≤(Lib.bytesWorld w2 5 x).heap.size:=by rw[Lib.bytesWorld_size];omega
  generalize w2.heap.size=g0 at br3 ⊢
  generalize grownCap w2 x.size 0 5=c0 at br3 ⊢
  generalize Lib.bytesWorld w2 5 x=w3 at br3 bc3 bw3 z3 ⊢
  have BR3:=Hd br3
  clear hcv HI0 b2 bw2 z2 br3
  go_wp2_with fail
  go_loopw [7,8] (fun b i wr=>∃ (k g c m f:Nat) (l:List UInt8),i=.int .i64 k∧b=.slice (some ⟨g,0,none⟩) m c∧l.length=m∧1≤k∧k<m∧m≤n+8∧BR wr (w.heap.size+1) 5 g c l∧Below (w.heap.size+1) w3 wr∧Qs zs.length l∧n≤m+f∧YP zs n f k l=YP zs n n 1 (L x)) (fun _ i _=>n - (intOf i).toNat)
  case atStart=>exact⟨1,g0,c0,x.size,n,L x,rfl,rfl,Zj x,by omega,by omega,by omega,BR3.out,Below.refl _ _,(HZ.o x HM0.o).2.2,by omega,rfl⟩
  case round =>
   obtain⟨k,g,c,m,f,l,rfl,rfl,hm,hk1,hkm,hm8,hbr,hbel,hlet,hf,hfx⟩:=hrel
   by_cases hlt:m<n
   ·obtain⟨d,hd⟩:=Zc (l:=l) (k:=k) (by omega)
    have hdl:=hlet d (List.mem_of_getElem? hd)
    obtain⟨f',hf1,hf2⟩:=ZfN (zs:=zs) (n:=n) (f:=f) (by omega) (by omega) hd
    rw[hf1] at hfx
    have hcell:=(hbr.dr (Dr.refl wr).drew).cell hd
    obtain⟨ky,hky,hzy⟩:=JA hdl.1 hdl.2
    have hmy:=List.mem_of_getElem? hzy
    have hzz:=HZ.o _ hmy
    have hbox:wr.drew.cell? ⟨w.heap.size,0,none⟩=some (.slice A nz cz):=((hbel.trans (Dr.refl wr).drew.below).cell (p:=⟨w.heap.size,0,none⟩) (by show w.heap.size<w.heap.size+1;omega)).trans bc3
    have hwr:Below w.heap.size w wr:=bw3.trans (hbel.mono (by omega))
    have hsz:w.heap.size+1≤wr.heap.size:=Nat.le_trans z3 hbel.size
    have hcl:=HIM.o d wr.drew hdl.1 hdl.2 ((HRD.o.below (hwr.mono (by omega)) hB).dr (Dr.refl _).drew) (by show B≤wr.heap.size;omega)
    obtain⟨y,hy⟩:∃ y,QO zs d=y:=⟨_,rfl⟩
    rw[hy] at hcl hzz hfx
    have hk0:(0:Int)≤(k:Int):=by omega
    have hkm2:(k:Int)<(m:Int):=by omega
    have hlt2:(m:Int)<(n:Int):=by omega
    have hys:m+y.size≤4294967296:=by omega
    have HBR:=Hd (hbr.dr (Dr.refl wr).drew);have HCL:=Hd hcl;have HL:=Hd hlet;have HF:=Hd hfx;have HM:=Hd hm;have HY:=Hd hzz;have HB:=Hd hbel
    clear hbr hcl hlet hfx hm hzz hd hf1 hzy hmy hky hdl hbel
    go_wp2_with fail
    go_region_law (first
     | (refine Xp rfl (.tmp 20) (.tmp 26) 22 9 rfl Tryz.underlying22 Tryz.underlying9 ZQ m (by rfl) (HBR.o.below b4) y (by rfl) HM.o hys (Nat.le_trans hsz b4.size) ?_;intro g' c' w5 br5 bl5)
     | (rw[if_pos (by rfl)];go_wp2_with (go_at_call 142;refine HCL.o.mono ?_;rintro e w4 ⟨rfl,b4⟩)))
    all_goals
     have BR5:=Hd br5
     have BL5:Hid (Below (w.heap.size+1) w3 w5):=Hd (HB.o.trans ((((Dr.refl wr).drew.below).trans (b4.mono hsz)).trans bl5))
     clear br5 bl5 b4 hbox hcell
     go_wp2_with fail
     go_roundw
     case rel=>exact⟨k+1,g',c',m+y.size,f',l++L y,by go_num,rfl,by rw[List.length_append,HM.o,Zj],by omega,by have:=HY.o.1;omega,by have:=HY.o.2.1;omega,BR5.out,BL5.out,fun d hd=>(List.mem_append.1 hd).elim (HL.o d) (HY.o.2.2 d),by have:=HY.o.1;have:=HM.o;omega,HF.o⟩
     case measure=>simp[intOf];omega
   ·have hlt2:¬ ((m:Int)<(n:Int)):=by omega
    have hlt3:decide ((m:Int)<(n:Int))=false:=decide_eq_false hlt2
    rw[Zdb (by omega)] at hfx
    have HBR:=Hd hbr;have HF:=Hd hfx;have HM:=Hd hm;have HB:=Hd hbel
    clear hbr hfx hm hlet hbel
    go_wp2_with fail
    go_ret
    refine⟨g,m,c,rfl,by rw[HFX.o,← HF.o,HM.o],by omega,by omega,?_,bw3.trans (HB.o.mono (by omega))⟩
    rw[HFX.o,← HF.o]
    exact HBR.o.lower (by omega)
theorem Xr (zs:List ByteArray) (A:Option Addr) (nz cz B:Nat) (s:ByteArray) (n:Nat) (w:World) (hl:zs.length=nz) (hn:n≤400) (hs:s.size≤maxLen) (hsu:Zf zs=true) (hgr:Qb zs s=true) (hrd:Rds w B A (zs.map Value.string)) (hB:B≤w.heap.size) :
  Calls Tryz.prog 62 #[.agg #[.slice A nz cz],.string s,.int .i64 n] w fun e w'=>e=.returned (.tuple #[.string (Zd ((fxL zs s n).take n)),.bool true])∧Below w.heap.size w w':=by
 have bA:Below w.heap.size w (w.alloc (.cells #[.slice A nz cz] 26)):=(Below.refl _ _).alloc nlr _
 have zA:(w.alloc (.cells #[.slice A nz cz] 26)).heap.size=w.heap.size+1:=by simp
 have h0:=cell_of_row _ _ 0 _ _ (0,0) (heap_alloc_new w (.cells #[.slice A nz cz] 26))
 have h4:=(ZE hsu).1
 have h8:∀ x∈zs,x.size≤8:=fun x hx=>((ZE hsu).2 x hx).2.1
 have hr0:=hrd.below bA hB
 have hc1:=Zz zs A cz B _ (by omega) (by omega) (fun x hx=>by have:=h8 x hx;unfold maxLen;omega) hr0
 rw[hl,hsu] at hc1
 have hc2:=fun v hv hr=>JE zs A nz cz B s v hl hs (by omega) (fun x hx=>by have:=h8 x hx;omega) hr hv
 rw[hgr] at hc2
 have hc3:=fun v hv hr=>ZgQ zs A nz cz B s n v hl (by omega) hsu hgr hr hv
 have HC1:=Hd hc1;have HC2:=Hd hc2;have HC3:=Hd hc3;have HRD:=Hd hrd;have H0:=Hd h0
 clear hc1 hc2 hc3 hrd h0 hr0 h8 hsu hgr
 go_enter Tryz.func62,Tryz.ntmps62
 go_wp2_with fail
 refine HC1.o.mono ?_
 rintro e w1 ⟨rfl,b1⟩
 have bw1:Below w.heap.size w w1:=bA.trans (b1.mono (by omega))
 have z1:=b1.size
 rw[zA] at z1
 have k1:w1.cell? ⟨w.heap.size,0,none⟩=some (.slice A nz cz):=(b1.cell (p:=⟨w.heap.size,0,none⟩) (by show w.heap.size<(w.alloc _).heap.size;omega)).trans H0.o
 go_wp2_with fail
 refine (HC2.o w1 (by omega) (HRD.o.below bw1 hB)).mono ?_
 rintro e w2 ⟨rfl,b2⟩
 have bw2:Below w.heap.size w w2:=bw1.trans (b2.mono (by omega))
 have z2:w.heap.size+1≤w2.heap.size:=Nat.le_trans z1 b2.size
 have k2:w2.cell? ⟨w.heap.size,0,none⟩=some (.slice A nz cz):=(b2.cell (p:=⟨w.heap.size,0,none⟩) (by show w.heap.size<w1.heap.size;omega)).trans k1
 go_wp2_with (go_at_call 65;refine (Zo _ _ _ ⟨by omega,by omega⟩ _).mono ?_;rintro e w' ⟨rfl,rfl⟩)
 refine (HC3.o w2 (by omega) (HRD.o.below bw2 hB)).mono ?_
 rintro e w3 ⟨g,m,c,rfl,hm,hnm,hm9,br,b3⟩
 have hcb:=(br.below (Below.refl _ _)).2.1
 have hrt:=(br.take n).reads
 have hcv:=hrt.conv (P:=Tryz.prog) (n:=n) (by rw[List.length_take];omega) 22 9 5 c Tryz.underlying22 Tryz.underlying5 Tryz.underlying9
 have hnc:(n:Int)≤(c:Int):=by omega
 have hn0:(0:Int)≤(n:Int):=by omega
 clear hrt br
 go_wp2_with fail
 go_ret2
 exact⟨rfl,bw2.trans (b3.mono (by omega))⟩
end Go.Proofs.YtocbgldilgemoaaGreatDoor
