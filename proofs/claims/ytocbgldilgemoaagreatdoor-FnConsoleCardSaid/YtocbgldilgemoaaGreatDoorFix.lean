/- Images, growing letters, fixed points of the program. No condition but the bounds. -/
import Derived.Test.YtocbgldilgemoaaGreatDoorM4
namespace Go.Proofs.YtocbgldilgemoaaGreatDoor
open Go.RowKit
set_option linter.unusedVariables false
theorem YM (zs:List ByteArray) (A:Option Addr) (n c B k:Nat) (x:ByteArray) (w:World) (hl:zs.length=n) (hk:zs[k]? = some x) (hk4:k<100) (hrd:Rds w B A (zs.map Value.string)) (hB:B≤w.heap.size) :
  Calls Tryz.prog 142 #[.agg #[.slice A n c],.int .u8 ((97+k:Nat):Int)] w fun e w'=>e=.returned (.string x)∧Below w.heap.size w w':=by
 have bA:Below w.heap.size w (w.alloc (.cells #[.slice A n c] 26)):=(Below.refl _ _).alloc nlr _
 have hkn:k<n:=by have:=(List.getElem?_eq_some_iff.1 hk).1;omega
 have hkn2:(k:Int)<(n:Int):=by omega
 obtain⟨ad,rfl,hc⟩:=(hrd.below bA hB).at_ (Zs Value.string hk)
 obtain⟨q,hq⟩:∃ q,97+k=q:=⟨_,rfl⟩
 have hw:IntKind.u8.wrap ((q:Int) - 97)=(k:Int):=by rw[IntWalk.u8_in _ (by omega)];omega
 have hq1:q<256:=by omega
 rw[hq]
 clear hrd hk hq
 go_enter Tryz.func142,Tryz.ntmps142
 go_wp2_with fail
 go_ret
 exact⟨rfl,bA⟩
def YN (s:ByteArray):Bool:=decide (s.size=1)&&isW (L s)
theorem V9 (s:ByteArray) (hs:s.size≤maxLen) (w:World) :
  Calls Tryz.prog 221 #[.string s] w fun e w'=>e=.returned (.bool (YN s))∧w=w':=by
 have hs2:=hs
 unfold maxLen at hs2
 obtain⟨b,hb⟩:∃ b,isW (L s)=b:=⟨_,rfl⟩
 have HB:=Hd hb
 by_cases h1:s.size=1
 ·have h2:((s.size:Int)==1)=true:=by rw[h1];rfl
  have HV:Hid (YN s=b):=Hd (by rw[YN,decide_eq_true h1,hb];rfl)
  clear h1 hb
  go_enter Tryz.func221,Tryz.ntmps221
  go_wp2_with (go_at_call 27;refine (Zl s _ hs HB.o _).mono ?_;rintro e w' ⟨rfl,rfl⟩)
  go_ret
  exact⟨Zk HV.o.symm,rfl⟩
 ·have h2:((s.size:Int)==1)=false:=by rw[beq_eq_false_iff_ne];omega
  have h3:decide (s.size=1)=false:=decide_eq_false h1
  have HV:Hid (YN s=false):=Hd (by rw[YN,h3];rfl)
  clear h1 hb
  go_enter Tryz.func221,Tryz.ntmps221
  go_wp2_with fail
  go_ret
  exact⟨Zk HV.o.symm,rfl⟩
def imB (n:Nat) (s:ByteArray):Bool:=YN s&&Qr n (L s)
theorem ZbG (A:Option Addr) (n c:Nat) (s:ByteArray) (hs:s.size≤maxLen) (hn:n≤4294967296) (w:World) :
  Calls Tryz.prog 141 #[.agg #[.slice A n c],.string s] w fun e w'=>e=.returned (.bool (imB n s))∧Below w.heap.size w w':=by
 have bA:Below w.heap.size w (w.alloc (.cells #[.slice A n c] 26)):=(Below.refl _ _).alloc nlr _
 have hl:=V9 s hs (w.alloc (.cells #[.slice A n c] 26))
 cases hb:YN s
 ·rw[hb] at hl
  have HV:Hid (imB n s=false):=Hd (by rw[imB,hb];rfl)
  have HL:=Hd hl
  clear hl hb
  go_enter Tryz.func141,Tryz.ntmps141
  go_wp2_with (go_at_call 221;refine HL.o.mono ?_;rintro e w1 ⟨rfl,rfl⟩)
  go_ret
  exact⟨Zk HV.o.symm,bA⟩
 ·rw[hb] at hl
  have h1:s.size≤1000:=by
   rw[YN,Bool.and_eq_true,decide_eq_true_eq] at hb;omega
  have hw:isW (L s)=true:=by rw[YN,Bool.and_eq_true] at hb;exact hb.2
  have hh:=JD A n c s h1 hn (w.alloc (.cells #[.slice A n c] 26))
  have HV:Hid (imB n s=(isW (L s)&&Qr n (L s))):=Hd (by rw[imB,hb,hw])
  have HL:=Hd hl;have HH:=Hd hh
  clear hl hb hh hw
  go_enter Tryz.func141,Tryz.ntmps141
  go_wp2_with (first
   | (go_at_call 221;refine HL.o.mono ?_;rintro e w1 ⟨rfl,rfl⟩)
   | (go_at_call 66;refine HH.o.mono ?_;rintro e w2 ⟨rfl,b2⟩))
  go_ret
  exact⟨Zk HV.o.symm,bA.trans (b2.mono bA.size)⟩
def QO (zs:List ByteArray) (c:UInt8):ByteArray:=zs.getD (c.toNat - 97) { data:=#[] }
def Qb (zs:List ByteArray) (s:ByteArray):Bool:=imB zs.length s&&(decide (1<(QO zs ((L s).headD 0)).size)&&decide ((L (QO zs ((L s).headD 0))).headD 0=(L s).headD 0))
theorem Vm {n:Nat} {s:ByteArray} (h:imB n s=true):∃ (k:Nat) (c:UInt8),k<n∧k<4∧c.toNat=97+k∧L s=[c]∧s.size=1:=by
 rw[imB,YN,Bool.and_eq_true,Bool.and_eq_true,decide_eq_true_eq] at h
 obtain⟨⟨h1,h2⟩,h3⟩:=h
 have hl:=Zj s
 rw[h1] at hl
 obtain⟨c,hc⟩:=List.length_eq_one_iff.1 hl
 have h4:=Q7 h2 (k:=0) (b:=c) (by rw[hc];rfl)
 rw[hc,Qr,List.all_cons,Bool.and_eq_true,decide_eq_true_eq] at h3
 exact⟨c.toNat - 97,c,by omega,by omega,by omega,hc,h1⟩
theorem JM {x:ByteArray} (h:0<x.size):(L x).headD 0=x[0]:=by
 have:=ZS x 0 h
 rw[List.drop_zero] at this
 rw[this];rfl
set_option maxRecDepth 4000 in
set_option maxHeartbeats 1000000 in
theorem JE (zs:List ByteArray) (A:Option Addr) (n c B:Nat) (s:ByteArray) (w:World) (hl:zs.length=n) (hs:s.size≤maxLen) (hn:n≤4294967296) (hz:∀ x∈zs,x.size≤1048576) (hrd:Rds w B A (zs.map Value.string)) (hB:B≤w.heap.size) :
  Calls Tryz.prog 71 #[.agg #[.slice A n c],.string s] w fun e w'=>e=.returned (.bool (Qb zs s))∧Below w.heap.size w w':=by
 have bA:Below w.heap.size w (w.alloc (.cells #[.slice A n c] 26)):=(Below.refl _ _).alloc nlr _
 have zA:(w.alloc (.cells #[.slice A n c] 26)).heap.size=w.heap.size+1:=by simp
 have h0:=heap_alloc_new w (.cells #[.slice A n c] 26)
 have hh:=ZbG A n c s hs hn (w.alloc (.cells #[.slice A n c] 26))
 rw[zA] at hh
 cases hb:imB n s
 ·rw[hb] at hh
  have HV:Hid (Qb zs s=false):=Hd (by rw[Qb,hl,hb];rfl)
  have HH:=Hd hh
  clear hh hb
  go_enter Tryz.func71,Tryz.ntmps71
  go_wp2_with (go_at_call 141;refine HH.o.mono ?_;rintro e w1 ⟨rfl,b1⟩)
  go_ret
  exact⟨Zk HV.o.symm,bA.trans (b1.mono (by omega))⟩
 ·rw[hb] at hh
  obtain⟨k,d,hkn,hk4,hd,hLs,hs1⟩:=Vm hb
  obtain⟨x,hx⟩:=Zc (l:=zs) (k:=k) (by omega)
  have hgx:QO zs ((L s).headD 0)=x:=by
   rw[hLs]
   show zs.getD (d.toNat - 97) _=x
   rw[show d.toNat - 97=k by omega,List.getD_eq_getElem?_getD,hx];rfl
  have hs0:0<s.size:=by omega
  have hs00:(0:Int)<(s.size:Int):=by omega
  have hsd:s[0]=d:=by rw[← JM hs0,hLs];rfl
  have hv:Qb zs s=(decide (1<x.size)&&decide ((L x).headD 0=d)):=by
   rw[Qb,hl,hb,hgx,hLs];rfl
  have hxz:=hz x (List.mem_of_getElem? hx)
  have him:=fun w' hB' (r:Rds w' B A (zs.map Value.string))=>YM zs A n c B k x w' hl hx (by omega) r hB'
  rw[← hd] at him
  have HV:=Hd hv;have HH:=Hd hh;have HIM:=Hd him;have HRD:=Hd hrd;have H0:=Hd h0
  have hsz2:s.size≤1:=by omega
  clear hh hb hv him hx hgx hLs hd hrd h0 hz hs1
  go_enter Tryz.func71,Tryz.ntmps71
  go_wp2_with (go_at_call 141;refine HH.o.mono ?_;rintro e w1 ⟨rfl,b1⟩)
  have z1:=b1.size
  rw[zA] at z1
  have bw1:Below w.heap.size w w1:=bA.trans (b1.mono (by omega))
  have k1:=(b1.cell (p:=⟨w.heap.size,0,none⟩) (by show w.heap.size<w.heap.size+1;omega)).trans (cell_of_row _ _ 0 _ _ (0,0) H0.o)
  have hRd1:=HRD.o.below bw1 hB
  have HR1:=Hd hRd1
  have hBw1:B≤w1.heap.size:=by omega
  have him2:=HIM.o w1.drew hBw1 (HR1.o.dr (Dr.refl _).drew)
  have HIM2:=Hd him2
  clear hRd1 b1 him2
  go_region_with (go_at_call 142;refine HIM2.o.mono ?_;rintro e w2 ⟨rfl,b2⟩)
  all_goals
   have hw2:Below w.heap.size w w2:=bw1.trans (((Dr.refl w1).drew.below).trans (b2.mono (show w.heap.size≤w1.heap.size by omega)))
   clear k1 b2
   by_cases hx1:1<x.size
   ·have hx11:(1:Int)<(x.size:Int):=by omega
    have hx0:0<x.size:=by omega
    have hx00:(0:Int)<(x.size:Int):=by omega
    have hxh:=JM hx0
    obtain⟨y,hy⟩:∃ y,x[0]=y:=⟨_,rfl⟩
    rw[hy] at hxh
    by_cases hyd:y=d
    ·have hcmp:((y.toNat:Int)==(d.toNat:Int))=true:=by rw[hyd];simp
     have HV2:Hid (Qb zs s=true):=Hd (by rw[HV.o,hxh,hyd,decide_eq_true hx1];simp)
     clear hxh hyd
     go_wp2_with fail
     go_quiet (fail)
     go_wp2_with fail
     go_ret
     exact⟨Zk HV2.o.symm,hw2.trans ((Dr.refl _).drewN _).below⟩
    ·have hcmp:((y.toNat:Int)==(d.toNat:Int))=false:=by
      rw[beq_eq_false_iff_ne];intro h;exact hyd (UInt8.toNat_inj.1 (by omega))
     have HV2:Hid (Qb zs s=false):=Hd (by rw[HV.o,hxh];simp[hyd])
     clear hxh hyd
     go_wp2_with fail
     go_quiet (fail)
     go_wp2_with fail
     go_ret
     exact⟨Zk HV2.o.symm,hw2.trans ((Dr.refl _).drewN _).below⟩
   ·have hx11:decide ((1:Int)<(x.size:Int))=false:=decide_eq_false (by omega)
    have hx12:decide (1<x.size)=false:=decide_eq_false hx1
    have HV2:Hid (Qb zs s=false):=Hd (by rw[HV.o,hx12];rfl)
    go_wp2_with fail
    go_quiet (fail)
    go_wp2_with fail
    go_ret
    exact⟨Zk HV2.o.symm,hw2.trans ((Dr.refl _).drewN _).below⟩
end Go.Proofs.YtocbgldilgemoaaGreatDoor
