/- FixedPoint, both, at whatever letter. No condition but the bounds. -/
import Derived.Test.YtocbgldilgemoaaGreatDoorIts
import Derived.Test.YtocbgldilgemoaaGreatDoorM30
namespace Go.Proofs.YtocbgldilgemoaaGreatDoor
set_option maxRecDepth 4000
set_option maxHeartbeats 2000000
open Go.RowKit
set_option linter.unusedVariables false
theorem ZfO {zs:List ByteArray} {s:ByteArray} {n:Nat} (h1:Zf zs=true) (h2:Qb zs s=true) (h3:n≤400):fxV zs s n=some (Zd ((fxL zs s n).take n)):=by
 rw[fxV,h1,h2,decide_eq_true (show (0:Int)≤(n:Int)∧(n:Int)≤400 by omega)];rfl
theorem Zdc {zs:List ByteArray} {s:ByteArray} {n:Int} (h:Qb zs s=false):fxV zs s n=none:=by
 rw[fxV,h,Bool.and_false,Bool.false_and];rfl
theorem Zlb {zs:List ByteArray} {s:ByteArray} {n:Int} (h:¬ (0≤n∧n≤400)):fxV zs s n=none:=by
 rw[fxV,decide_eq_false h,Bool.and_false];rfl
theorem Xs (zs:List ByteArray) (A:Option Addr) (cz B:Nat) (s:ByteArray) (n:Int) (w:World) (hs:s.size≤maxLen) (hsu:Zf zs=true) (hrd:Rds w B A (zs.map Value.string)) (hB:B≤w.heap.size) :
  Calls Tryz.prog 62 #[.agg #[.slice A zs.length cz],.string s,.int .i64 n] w fun e w'=>e=.returned (okS (fxV zs s n))∧Below w.heap.size w w':=by
 obtain⟨hz4,hz⟩:=ZE hsu
 by_cases hok:Qb zs s=true∧(0≤n∧n≤400)
 ·obtain⟨hg,hn0,hn1⟩:=hok
  obtain⟨N,rfl⟩:=Int.eq_ofNat_of_zero_le hn0
  rw[ZfO hsu hg (by omega)]
  exact Xr zs A zs.length cz B s N w rfl (by omega) hs hsu hg hrd hB
 have bA:Below w.heap.size w (w.alloc (.cells #[.slice A zs.length cz] 26)):=(Below.refl _ _).alloc nlr _
 have zA:(w.alloc (.cells #[.slice A zs.length cz] 26)).heap.size=w.heap.size+1:=by simp
 have h0:=cell_of_row _ _ 0 _ _ (0,0) (heap_alloc_new w (.cells #[.slice A zs.length cz] 26))
 have hso:=Zz zs A cz B _ (by omega) (by omega) (fun y hy=>by have:=(hz y hy).2.1;unfold maxLen;omega) (hrd.below bA hB)
 rw[hsu,zA] at hso
 have hgr:=fun v (r:Rds v B A (zs.map Value.string)) hb=>JE zs A zs.length cz B s v rfl hs (by omega) (fun y hy=>by have:=(hz y hy).2.1;omega) r hb
 have HSO:=Hd hso;have H0:=Hd h0;have HRD:=Hd hrd
 clear hso h0 hrd
 cases hg:Qb zs s with
 | false =>
  rw[hg] at hgr
  have HG:=Hd hgr
  rw[Zdc hg]
  clear hgr hg hok hsu hz
  go_enter Tryz.func62,Tryz.ntmps62
  go_wp2_with (first
   | (go_at_call 26;refine HSO.o.mono ?_;rintro e w1 ⟨rfl,b1⟩;have k1:=(b1.cell (p:=⟨w.heap.size,0,none⟩) (by show w.heap.size<w.heap.size+1;omega)).trans H0.o;have bw1:Below w.heap.size w w1:=bA.trans (b1.mono (by omega)))
   | (go_at_call 71;refine (HG.o _ (HRD.o.below bw1 hB) (Nat.le_trans hB bw1.size)).mono ?_;rintro e w2 ⟨rfl,b2⟩))
  go_ret2
  exact⟨rfl,bw1.trans (b2.mono bw1.size)⟩
 | true =>
  rw[hg] at hgr
  have HG:=Hd hgr
  have hn:¬ (0≤n∧n≤400):=fun h=>hok ⟨hg,h⟩
  rw[Zlb hn]
  have HN:=Hd (fun w=>ZK n 0 400 hn w)
  clear hgr hg hok hsu hz hn
  go_enter Tryz.func62,Tryz.ntmps62
  go_wp2_with (first
   | (go_at_call 26;refine HSO.o.mono ?_;rintro e w1 ⟨rfl,b1⟩;have k1:=(b1.cell (p:=⟨w.heap.size,0,none⟩) (by show w.heap.size<w.heap.size+1;omega)).trans H0.o;have bw1:Below w.heap.size w w1:=bA.trans (b1.mono (by omega)))
   | (go_at_call 71;refine (HG.o _ (HRD.o.below bw1 hB) (Nat.le_trans hB bw1.size)).mono ?_;rintro e w2 ⟨rfl,b2⟩)
   | (go_at_call 65;refine (HN.o _).mono ?_;rintro e w3 ⟨rfl,rfl⟩))
  go_ret2
  exact⟨rfl,bw1.trans (b2.mono bw1.size)⟩
theorem VL (A:Option Addr) (n c k:Nat) (s:ByteArray) (d:UInt8) (hs:L s=[d]) (hd:d.toNat=97+k) (hk:k<n) (hn:n≤4) (w:World) :
  Calls Tryz.prog 242 #[.agg #[.slice A n c],.string s] w fun e w'=>e=.returned (.int .i64 k)∧Below w.heap.size w w':=by
 have hs1:s.size=1:=by rw[← Zj,hs];rfl
 have hb:isW (L s)=true:=by
  rw[hs,isW,List.all_cons,List.all_nil]
  have:okc d=true:=decide_eq_true (by omega)
  rw[this];rfl
 have h0:=cell_of_row _ _ 0 _ _ (0,0) (heap_alloc_new w (.cells #[.slice A n c] 26))
 have bA:Below w.heap.size w (w.alloc (.cells #[.slice A n c] 26)):=(Below.refl _ _).alloc nlr _
 have hw:=fun v=>Zi s _ (by unfold maxLen;omega) hb v
 have hs0:0<s.size:=by omega
 have hs00:(0:Int)<(s.size:Int):=by omega
 have hsd:s[0]=d:=by rw[← JM hs0,hs];rfl
 have hsz:((s.size:Int) != 1)=false:=by simp;omega
 have hdk:(d.toNat:Int) - 97=(k:Int):=by omega
 have hdw:IntKind.i64.wrap ((d.toNat:Int) - 97)=(k:Int):=by rw[IntWalk.i64_in _ (by omega)];omega
 have hkn:¬ ((n:Int)≤(k:Int)):=by omega
 have hsz2:s.size≤1:=by omega
 have HW:=Hd hw
 clear hw hs hb hs1 hd
 go_enter Tryz.func242,Tryz.ntmps242
 go_wp2_with (go_at_call 43;refine (HW.o _).mono ?_;rintro e w1 ⟨rfl,rfl⟩;have h0':=h0)
 go_ret
 exact⟨by first|rfl|(show Ending.returned (Value.int .i64 ((d.toNat:Int) - 97))=_;rw[hdk]),bA⟩
theorem ZbI (A:Option Addr) (n c:Nat) (s:ByteArray) (hs:s.size≤maxLen) (h:imB n s=false) (hn:n≤4) (w:World) :
  Calls Tryz.prog 242 #[.agg #[.slice A n c],.string s] w fun e w'=>e=.returned (.int .i64 (-1))∧Below w.heap.size w w':=by
 have h0:=cell_of_row _ _ 0 _ _ (0,0) (heap_alloc_new w (.cells #[.slice A n c] 26))
 have bA:Below w.heap.size w (w.alloc (.cells #[.slice A n c] 26)):=(Below.refl _ _).alloc nlr _
 have hs9:=hs
 unfold maxLen at hs9
 by_cases h1:s.size=1
 ·have hsz:((s.size:Int) != 1)=false:=by simp;omega
  cases hb:isW (L s) with
  | false =>
   have HW:=Hd (fun v=>Zi s _ hs hb v)
   clear hb h
   go_enter Tryz.func242,Tryz.ntmps242
   go_wp2_with (go_at_call 43;refine (HW.o _).mono ?_;rintro e w1 ⟨rfl,rfl⟩)
   go_ret
   exact⟨rfl,bA⟩
  | true =>
   have HW:=Hd (fun v=>Zi s _ hs hb v)
   have hl:=Zj s
   rw[h1] at hl
   obtain⟨d,hd⟩:=List.length_eq_one_iff.1 hl
   have hdo:=Q7 hb (k:=0) (b:=d) (by rw[hd];rfl)
   have hdn:97+n≤d.toNat:=by
    rw[imB,YN,h1,hb,hd,Qr,List.all_cons,List.all_nil] at h
    simp at h;omega
   have hs0:0<s.size:=by omega
   have hs00:(0:Int)<(s.size:Int):=by omega
   have hsd:s[0]=d:=by rw[← JM hs0,hd];rfl
   have hdk:(n:Int)≤(d.toNat:Int) - 97:=by omega
   have hsz2:s.size≤1:=by omega
   have hd100:d.toNat≤100:=hdo.2
   have hd97:97≤d.toNat:=hdo.1
   clear hb h hl hd hdo h1
   go_enter Tryz.func242,Tryz.ntmps242
   go_wp2_with (go_at_call 43;refine (HW.o _).mono ?_;rintro e w1 ⟨rfl,rfl⟩;have h0':=h0)
   go_ret
   exact⟨rfl,bA⟩
 ·have hsz:((s.size:Int) != 1)=true:=by simp;omega
  clear h
  go_enter Tryz.func242,Tryz.ntmps242
  go_wp2_with fail
  go_ret
  exact⟨rfl,bA⟩
theorem Zlc {s:ByteArray} {d:UInt8} {k:Nat} (hs:L s=[d]) (hd:d.toNat=97+k) (hk:k<4):s=lx k:=by
 apply ZH
 show L s=L (lx k)
 rw[hs,ZgX hk]
 congr 1
 apply UInt8.toNat_inj.1
 rw[UInt8.toNat_ofNat'];omega
theorem ZbJ (zs:List ByteArray) (A:Option Addr) (cz B:Nat) (s:ByteArray) (w:World) (hs:s.size≤maxLen) (hsu:Zf zs=true) (hg:Qb zs s=false) (hrd:Rds w B A (zs.map Value.string)) (hB:B≤w.heap.size) :
  Calls Tryz.prog 180 #[.agg #[.slice A zs.length cz],.string s] w fun e w'=>e=.returned (.int .i64 (-1))∧Below w.heap.size w w':=by
 obtain⟨hz4,hz⟩:=ZE hsu
 have bA:Below w.heap.size w (w.alloc (.cells #[.slice A zs.length cz] 26)):=(Below.refl _ _).alloc nlr _
 have zA:(w.alloc (.cells #[.slice A zs.length cz] 26)).heap.size=w.heap.size+1:=by simp
 have h0:=cell_of_row _ _ 0 _ _ (0,0) (heap_alloc_new w (.cells #[.slice A zs.length cz] 26))
 cases him:imB zs.length s with
 | false =>
  have hc:=ZbI A zs.length cz s hs him hz4 (w.alloc (.cells #[.slice A zs.length cz] 26))
  rw[zA] at hc
  have HC:=Hd hc
  clear hc hg hsu hz him hrd
  go_enter Tryz.func180,Tryz.ntmps180
  go_wp2_with fail
  refine HC.o.mono ?_
  rintro e w1 ⟨rfl,b1⟩
  go_wp2_with fail
  go_ret
  exact⟨rfl,bA.trans (b1.mono (by omega))⟩
 | true =>
  obtain⟨k,d,hkn,hk4,hd,hLs,hs1⟩:=Vm him
  have hlx:=Zlc hLs hd hk4
  have hc:=VL A zs.length cz k s d hLs hd hkn hz4 (w.alloc (.cells #[.slice A zs.length cz] 26))
  rw[zA] at hc
  have hso:=fun v (r:Rds v B A (zs.map Value.string)) hb=>ZB zs A cz B v hb (by omega) (fun y hy=>by have:=(hz y hy).2.1;unfold maxLen;omega) r
  rw[hsu] at hso
  obtain⟨x,hx⟩:=Zc (l:=zs) (k:=k) hkn
  have hxz:=hz x (List.mem_of_getElem? hx)
  have hgr:=fun v (r:Rds v B A (zs.map Value.string)) hb=>VS zs A zs.length cz B k x v rfl hx hk4 hxz.1 hxz.2.1 (fun c hc=>by have:=hxz.2.2 c hc;omega) r hb
  rw[← hlx,hg] at hgr
  have HC:=Hd hc;have HSO:=Hd hso;have HG:=Hd hgr;have HRD:=Hd hrd;have H0:=Hd h0
  have hk0:¬ (k:Int)<0:=by omega
  clear hc hso hgr hrd h0 hg hsu hz him hLs hd hlx hs1 hx hxz
  go_enter Tryz.func180,Tryz.ntmps180
  go_wp2_with fail
  refine HC.o.mono ?_
  rintro e w1 ⟨rfl,b1⟩
  have bw1:Below w.heap.size w w1:=bA.trans (b1.mono (by omega))
  have z1:=b1.size
  have k1:=(b1.cell (p:=⟨w.heap.size,0,none⟩) (by show w.heap.size<w.heap.size+1;omega)).trans H0.o
  go_wp2_with (first
   | (go_at_call 78;refine (HSO.o _ (HRD.o.below bw1 hB) (Nat.le_trans hB bw1.size)).mono ?_;rintro e w2 ⟨rfl,b2⟩;have bw2:Below w.heap.size w w2:=bw1.trans (b2.mono (by omega));have k2:=(b2.cell (p:=⟨w.heap.size,0,none⟩) (by show w.heap.size<w1.heap.size;omega)).trans k1)
   | (go_at_call 230;refine (HG.o _ (HRD.o.below bw2 hB) (Nat.le_trans hB bw2.size)).mono ?_;rintro e w3 ⟨rfl,b3⟩))
  go_ret
  exact⟨rfl,bw2.trans (b3.mono bw2.size)⟩
theorem Zao (zs:List ByteArray) (A:Option Addr) (cz B k:Nat) (s:ByteArray) (d:UInt8) (w:World) (hLs:L s=[d]) (hd:d.toNat=97+k) (hkn:k<zs.length) (hsu:Zf zs=true) (hg:Qb zs s=true) (hrd:Rds w B A (zs.map Value.string)) (hB:B≤w.heap.size) :
  Calls Tryz.prog 180 #[.agg #[.slice A zs.length cz],.string s] w fun e w'=>e=.returned (.int .i64 k)∧Below w.heap.size w w':=by
 obtain⟨hz4,hz⟩:=ZE hsu
 have bA:Below w.heap.size w (w.alloc (.cells #[.slice A zs.length cz] 26)):=(Below.refl _ _).alloc nlr _
 have zA:(w.alloc (.cells #[.slice A zs.length cz] 26)).heap.size=w.heap.size+1:=by simp
 have h0:=cell_of_row _ _ 0 _ _ (0,0) (heap_alloc_new w (.cells #[.slice A zs.length cz] 26))
 have hk4:k<4:=by omega
 have hlx:=Zlc hLs hd hk4
 have hc:=VL A zs.length cz k s d hLs hd hkn hz4 (w.alloc (.cells #[.slice A zs.length cz] 26))
 rw[zA] at hc
 have hso:=fun v (r:Rds v B A (zs.map Value.string)) hb=>ZB zs A cz B v hb (by omega) (fun y hy=>by have:=(hz y hy).2.1;unfold maxLen;omega) r
 rw[hsu] at hso
 obtain⟨x,hx⟩:=Zc (l:=zs) (k:=k) hkn
 have hxz:=hz x (List.mem_of_getElem? hx)
 have hgr:=fun v (r:Rds v B A (zs.map Value.string)) hb=>VS zs A zs.length cz B k x v rfl hx hk4 hxz.1 hxz.2.1 (fun c hc=>by have:=hxz.2.2 c hc;omega) r hb
 rw[← hlx,hg] at hgr
 have HC:=Hd hc;have HSO:=Hd hso;have HG:=Hd hgr;have HRD:=Hd hrd;have H0:=Hd h0
 have hk0:¬ (k:Int)<0:=by omega
 clear hc hso hgr hrd h0 hg hsu hz hLs hd hlx hx hxz
 go_enter Tryz.func180,Tryz.ntmps180
 go_wp2_with fail
 refine HC.o.mono ?_
 rintro e w1 ⟨rfl,b1⟩
 have bw1:Below w.heap.size w w1:=bA.trans (b1.mono (by omega))
 have z1:=b1.size
 have k1:=(b1.cell (p:=⟨w.heap.size,0,none⟩) (by show w.heap.size<w.heap.size+1;omega)).trans H0.o
 go_wp2_with (first
  | (go_at_call 78;refine (HSO.o _ (HRD.o.below bw1 hB) (Nat.le_trans hB bw1.size)).mono ?_;rintro e w2 ⟨rfl,b2⟩;have bw2:Below w.heap.size w w2:=bw1.trans (b2.mono (by omega));have k2:=(b2.cell (p:=⟨w.heap.size,0,none⟩) (by show w.heap.size<w1.heap.size;omega)).trans k1)
  | (go_at_call 230;refine (HG.o _ (HRD.o.below bw2 hB) (Nat.le_trans hB bw2.size)).mono ?_;rintro e w3 ⟨rfl,b3⟩))
 go_ret
 exact⟨rfl,bw2.trans (b3.mono bw2.size)⟩
theorem ZbK (zs:List ByteArray) (A:Option Addr) (nz cz B k0:Nat) (s:ByteArray) (d0:UInt8) (n:Nat) (w:World) (hl:zs.length=nz) (hn:n≤400) (hLs:L s=[d0]) (hd0:d0.toNat=97+k0) (hsu:Zf zs=true) (hgr:Qb zs s=true) (hrd:Rds w B A (zs.map Value.string)) (hB:B≤w.heap.size) :
  Calls Tryz.prog 181 #[.agg #[.slice A nz cz],.int .i64 k0,.int .i64 n] w fun e w'=>e=.returned (.string (Zd ((fxL zs s n).take n)))∧Below w.heap.size w w':=by
 obtain⟨hz4,hz⟩:=ZE hsu
 rw[Qb,Bool.and_eq_true,Bool.and_eq_true,decide_eq_true_eq,decide_eq_true_eq] at hgr
 obtain⟨him,hx2,hxh⟩:=hgr
 have hk0:k0<zs.length:=by
  obtain⟨k,d,h1,h2,h3,h4,h5⟩:=Vm him
  rw[hLs] at h4;injection h4 with h4;subst h4;omega
 have hfx:fxL zs s n=YP zs n n 1 (L (QO zs d0)):=by rw[fxL,hLs];rfl
 rw[hLs] at hx2
 have hx2:1<(QO zs d0).size:=hx2
 have bA:Below w.heap.size w (w.alloc (.cells #[.slice A nz cz] 26)):=(Below.refl _ _).alloc nlr _
 have zA:(w.alloc (.cells #[.slice A nz cz] 26)).heap.size=w.heap.size+1:=by simp
 have h0:=cell_of_row _ _ 0 _ _ (0,0) (heap_alloc_new w (.cells #[.slice A nz cz] 26))
 obtain⟨kq,hkq,hzq⟩:=JA (d:=d0) (zs:=zs) (by omega) (by omega)
 have hkq2:kq=k0:=by omega
 subst hkq2
 obtain⟨ad,hA,hc0⟩:=(hrd.below bA hB).at_ (Zs Value.string hzq)
 have hm0:QO zs d0∈zs:=List.mem_of_getElem? hzq
 obtain⟨x,hx⟩:∃ x,QO zs d0=x:=⟨_,rfl⟩
 rw[hx] at hx2 hfx hm0 hc0
 have HRD:=Hd hrd;have HFX:=Hd hfx;have HZ:=Hd hz;have HM0:=Hd hm0;have HL:=Hd hl;have H0:=Hd h0
 have hz9:nz≤4:=by omega
 have hkn:(kq:Int)<(nz:Int):=by omega
 have hx8:=(hz x hm0).2.1
 subst hA
 clear hrd hfx hz hm0 hsu him hxh hd0 hLs hx hzq hkq hk0 hl
 have hcv:∀ v:World,(convert 9 22 (.string x)).run Tryz.prog v=.ok (.slice (some ⟨v.heap.size,0,none⟩) x.size (grownCap v x.size 0 5)) (Lib.bytesWorld v 5 x) :=
  fun v=>Lib.run_convert_string_bytes v _ _ _ x Tryz.underlying9 Tryz.underlying22 Tryz.underlying5
 go_enter Tryz.func181,Tryz.ntmps181
 go_wp2_with fail
 have bw3:Below w.heap.size w (Lib.bytesWorld (w.alloc (.cells #[.slice (some ad) nz cz] 26)) 5 x):=bA.trans ((Lib.bytesWorld_below _ 5 x).mono (by omega))
 have bc3:(Lib.bytesWorld (w.alloc (.cells #[.slice (some ad) nz cz] 26)) 5 x).cell? ⟨w.heap.size,0,none⟩=some (.slice (some ad) nz cz):=((Lib.bytesWorld_below _ 5 x).cell (p:=⟨w.heap.size,0,none⟩) (by show w.heap.size<(w.alloc _).heap.size;omega)).trans H0.o
 have br3:BR (Lib.bytesWorld (w.alloc (.cells #[.slice (some ad) nz cz] 26)) 5 x) (w.heap.size+1) 5 (w.alloc (.cells #[.slice (some ad) nz cz] 26)).heap.size (grownCap (w.alloc (.cells #[.slice (some ad) nz cz] 26)) x.size 0 5) (L x):=(BR.conv _ 5 x (by unfold maxLen;omega)).lower (by omega)
 have z3:w.heap.size+1≤(Lib.bytesWorld (w.alloc (.cells #[.slice (some ad) nz cz] 26)) 5 x).heap.size:=by rw[Lib.bytesWorld_size];omega
 simp only[zA] at br3
 generalize grownCap (w.alloc (.cells #[.slice (some ad) nz cz] 26)) x.size 0 5=c0 at br3 ⊢
 generalize Lib.bytesWorld (w.alloc (.cells #[.slice (some ad) nz cz] 26)) 5 x=w3 at br3 bc3 bw3 z3 ⊢
 have BR3:=Hd br3
 clear hcv br3 hc0 hkn
 try rw[zA]
 go_loopw [7,8] (fun b i wr=>∃ (k g c m f:Nat) (l:List UInt8),i=.int .i64 k∧b=.slice (some ⟨g,0,none⟩) m c∧l.length=m∧1≤k∧k<m∧m≤n+8∧BR wr (w.heap.size+1) 5 g c l∧Below (w.heap.size+1) w3 wr∧Qs zs.length l∧n≤m+f∧YP zs n f k l=YP zs n n 1 (L x)) (fun _ i _=>n - (intOf i).toNat)
 case atStart=>exact⟨1,w.heap.size+1,c0,x.size,n,L x,rfl,rfl,Zj x,by omega,by omega,by omega,BR3.out,Below.refl _ _,(HZ.o x HM0.o).2.2,by omega,rfl⟩
 case round =>
  obtain⟨k,g,c,m,f,l,rfl,rfl,hm,hk1,hkm,hm8,hbr,hbel,hlet,hf,hfx⟩:=hrel
  by_cases hlt:m<n
  ·obtain⟨d,hd⟩:=Zc (l:=l) (k:=k) (by omega)
   have hdl:=hlet d (List.mem_of_getElem? hd)
   obtain⟨f',hf1,hf2⟩:=ZfN (zs:=zs) (n:=n) (f:=f) (by omega) (by omega) hd
   rw[hf1] at hfx
   have hcell:=(hbr.dr (Dr.refl wr).drew).cell hd
   obtain⟨j,hj,hzj⟩:=JA hdl.1 hdl.2
   have hmy:=List.mem_of_getElem? hzj
   have hzz:=HZ.o _ hmy
   have hjn:j<nz:=by have:=(List.getElem?_eq_some_iff.1 hzj).1;rw[HL.o] at this;exact this
   have hbox:wr.drew.cell? ⟨w.heap.size,0,none⟩=some (.slice (some ad) nz cz):=((hbel.trans (Dr.refl wr).drew.below).cell (p:=⟨w.heap.size,0,none⟩) (by show w.heap.size<w.heap.size+1;omega)).trans bc3
   have hwr:Below w.heap.size w wr:=bw3.trans (hbel.mono (by omega))
   have hsz:w.heap.size+1≤wr.heap.size:=Nat.le_trans z3 hbel.size
   have hrd2:=(HRD.o.below (hwr.mono (by omega)) hB).dr (Dr.refl wr).drew
   obtain⟨ad2,hA2,hcz⟩:=hrd2.at_ (Zs Value.string hzj)
   injection hA2 with hA2
   subst hA2
   obtain⟨y,hy⟩:∃ y,QO zs d=y:=⟨_,rfl⟩
   rw[hy] at hzz hfx hcz
   have hdq:IntKind.u8.wrap ((d.toNat:Int) - 97)=(j:Int):=by rw[IntWalk.u8_in _ (by omega)];omega
   have hjn2:(j:Int)<(nz:Int):=by omega
   have hj0:(0:Int)≤(j:Int):=by omega
   have hk0:(0:Int)≤(k:Int):=by omega
   have hkm2:(k:Int)<(m:Int):=by omega
   have hlt2:(m:Int)<(n:Int):=by omega
   have hlim:m+y.size≤4294967296:=by omega
   have hcv:∀ v:World,(convert 9 22 (.string y)).run Tryz.prog v=.ok (.slice (some ⟨v.heap.size,0,none⟩) y.size (grownCap v y.size 0 5)) (Lib.bytesWorld v 5 y) :=
    fun v=>Lib.run_convert_string_bytes v _ _ _ y Tryz.underlying9 Tryz.underlying22 Tryz.underlying5
   have hbr3:=(hbr.dr (Dr.refl wr).drew).below (Lib.bytesWorld_below wr.drew 5 y)
   have hrd3:=BR.conv_reads (w:=wr.drew) (E:=5) (s:=y) (by unfold maxLen;omega)
   have hBs:w.heap.size+1≤(Lib.bytesWorld wr.drew 5 y).heap.size:=by rw[Lib.bytesWorld_size];show w.heap.size+1≤wr.heap.size+1;omega
   have bby:Below wr.heap.size wr (Lib.bytesWorld wr.drew 5 y):=((Dr.refl wr).drew.below).trans (Lib.bytesWorld_below wr.drew 5 y)
   have HBR:=Hd hbr3;have HRD3:=Hd hrd3;have HLE:=Hd hlet;have HF:=Hd hfx;have HM:=Hd hm;have HY:=Hd hzz;have HB:=Hd hbel;have HBB:=Hd bby
   clear hbr hbr3 hrd2 hrd3 hlet hfx hm hzz hd hf1 hzj hmy hj hdl hbel bby hy
   go_wp2_with fail
   go_region_law (refine Vb rfl (.tmp 21) (.tmp 31) 22 rfl Tryz.underlying22 ZQ m (by rfl) HBR.o (L y) ⟨wr.drew.heap.size,0,none⟩ y.size _ (by rfl) HRD3.o (Zj y) HM.o hlim hBs ?_;intro g' c' w5 br5 bl5)
   all_goals
    have BR5:=Hd br5
    have BL5:Hid (Below (w.heap.size+1) w3 w5):=Hd (HB.o.trans ((HBB.o.mono hsz).trans bl5))
    clear br5 bl5 hbox hcell hcv hcz
    go_wp2_with fail
    go_roundw
    case rel=>exact⟨k+1,g',c',m+y.size,f',l++L y,by go_num,rfl,by rw[List.length_append,HM.o,Zj],by omega,by have:=HY.o.1;omega,by have:=HY.o.2.1;omega,BR5.out,BL5.out,fun d hd=>(List.mem_append.1 hd).elim (HLE.o d) (HY.o.2.2 d),by have:=HY.o.1;have:=HM.o;omega,HF.o⟩
    case measure=>simp[intOf];omega
  ·have hlt2:¬ ((m:Int)<(n:Int)):=by omega
   rw[Zdb (by omega)] at hfx
   have hcb:=hbr.2.1
   have hrt:=(hbr.take n).reads
   have hcv:=hrt.conv (P:=Tryz.prog) (n:=n) (by rw[List.length_take];omega) 22 9 5 c Tryz.underlying22 Tryz.underlying5 Tryz.underlying9
   have hnc:(n:Int)≤(c:Int):=by omega
   have hn0:(0:Int)≤(n:Int):=by omega
   have HF:=Hd hfx;have HB:=Hd hbel
   clear hbr hfx hm hlet hbel hrt hcb
   go_wp2_with fail
   go_ret
   exact⟨by rw[HFX.o,← HF.o];rfl,bw3.trans (HB.o.mono (by omega))⟩
theorem Xt (zs:List ByteArray) (A:Option Addr) (cz B:Nat) (s:ByteArray) (n:Int) (w:World) (hs:s.size≤maxLen) (hsu:Zf zs=true) (hrd:Rds w B A (zs.map Value.string)) (hB:B≤w.heap.size) :
  Calls Tryz.prog 99 #[.agg #[.slice A zs.length cz],.string s,.int .i64 n] w fun e w'=>e=.returned (okS (fxV zs s n))∧Below w.heap.size w w':=by
 have bA:Below w.heap.size w (w.alloc (.cells #[.slice A zs.length cz] 26)):=(Below.refl _ _).alloc nlr _
 have zA:(w.alloc (.cells #[.slice A zs.length cz] 26)).heap.size=w.heap.size+1:=by simp
 have h0:=cell_of_row _ _ 0 _ _ (0,0) (heap_alloc_new w (.cells #[.slice A zs.length cz] 26))
 cases hg:Qb zs s with
 | false =>
  rw[Zdc hg]
  have hc:=ZbJ zs A cz B s _ hs hsu hg (hrd.below bA hB) (by rw[zA];omega)
  rw[zA] at hc
  have HC:=Hd hc
  clear hc hg hsu hrd
  go_enter Tryz.func99,Tryz.ntmps99
  go_wp2_with fail
  refine HC.o.mono ?_
  rintro e w1 ⟨rfl,b1⟩
  go_wp2_with fail
  go_ret2
  exact⟨rfl,bA.trans (b1.mono (by omega))⟩
 | true =>
  have him:imB zs.length s=true:=by
   have h:=hg
   rw[Qb,Bool.and_eq_true] at h;exact h.1
  obtain⟨k,d,hkn,hk4,hd,hLs,hs1⟩:=Vm him
  have hc:=Zao zs A cz B k s d _ hLs hd hkn hsu hg (hrd.below bA hB) (by rw[zA];omega)
  rw[zA] at hc
  have HC:=Hd hc
  have hk0:¬ (k:Int)<0:=by omega
  clear hc him hs1
  by_cases hn:0≤n∧n≤400
  ·have HN:=Hd (fun w=>Zw n 0 400 hn w)
   obtain⟨hn0,hn1⟩:=hn
   obtain⟨N,rfl⟩:=Int.eq_ofNat_of_zero_le hn0
   rw[ZfO hsu hg (by omega)]
   have hst:=fun v r hb=>ZbK zs A zs.length cz B k s d N v rfl (by omega) hLs hd hsu hg r hb
   obtain⟨V,hV⟩:∃ V,Zd ((fxL zs s N).take N)=V:=⟨_,rfl⟩
   rw[hV] at hst ⊢
   have HST:=Hd hst;have HRD:=Hd hrd;have H0:=Hd h0
   clear hst hrd h0 hV hg hsu hLs hd
   go_enter Tryz.func99,Tryz.ntmps99
   go_wp2_with fail
   refine HC.o.mono ?_
   rintro e w1 ⟨rfl,b1⟩
   have bw1:Below w.heap.size w w1:=bA.trans (b1.mono (by omega))
   have k1:=(b1.cell (p:=⟨w.heap.size,0,none⟩) (by show w.heap.size<w.heap.size+1;omega)).trans H0.o
   go_wp2_with (go_at_call 146;refine (HN.o _).mono ?_;rintro e w2 ⟨rfl,rfl⟩)
   refine (HST.o _ (HRD.o.below bw1 hB) (Nat.le_trans hB bw1.size)).mono ?_
   rintro e w3 ⟨rfl,b3⟩
   go_wp2_with fail
   go_ret2
   exact⟨rfl,bw1.trans (b3.mono bw1.size)⟩
  ·rw[Zlb hn]
   have HN:=Hd (fun w=>ZU n 0 400 hn w)
   clear hn hg hsu hLs hd hrd
   go_enter Tryz.func99,Tryz.ntmps99
   go_wp2_with fail
   refine HC.o.mono ?_
   rintro e w1 ⟨rfl,b1⟩
   go_wp2_with (go_at_call 146;refine (HN.o _).mono ?_;rintro e w2 ⟨rfl,rfl⟩)
   go_ret2
   exact⟨rfl,bA.trans (b1.mono (by omega))⟩
end Go.Proofs.YtocbgldilgemoaaGreatDoor
