/- FoldPattern, both. Asks the shelf's text (strings.ReplaceAll). No condition but the bounds. -/
import Derived.Test.YtocbgldilgemoaaGreatDoorItw
namespace Go.Proofs.YtocbgldilgemoaaGreatDoor
set_option maxRecDepth 4000
set_option maxHeartbeats 1000000
open Go.RowKit
set_option linter.unusedVariables false
def ZR:ByteArray:={ data:=#[97,63,98,63] }
def fpC (k:Nat):UInt8:=if k % 2=1 then 63 else if k % 4=0 then 97 else 98
theorem ZfI {k:Nat} (h:k<ZR.size):ZR[k]=fpC k:=by
 have h4:k<4:=h
 match k,h4 with
 | 0,_=>rfl
 | 1,_=>rfl
 | 2,_=>rfl
 | 3,_=>rfl
theorem Vu:ZR.size=4:=rfl
theorem ZfJ {n:Nat} (h:n % 2=1):fdC (n / 2)=fdC n:=(Zkz h).symm
theorem ZfK {n:Nat} (h:¬ n % 2=1):fpC (n % 4)=fdC n:=by
 unfold fpC
 rw[if_neg (by omega)]
 by_cases h4:n % 4=0
 ·rw[if_pos (by omega),ZiA h4]
 ·rw[if_neg (by omega),ZkA (by omega)]
theorem Zla (n:Nat):fdC n=97∨fdC n=98:=by
 have:∀ f n,fdG f n=97∨fdG f n=98:=by
  intro f
  induction f with
  | zero=>intro n;exact .inl rfl
  | succ f ih =>
   intro n
   rw[fdG]
   split
   ·exact ih _
   ·split
    ·exact .inl rfl
    ·exact .inr rfl
 exact this _ _
theorem ZeJ (w:World):Calls Tryz.prog 144 #[.string ZR,.string ⟨#[63]⟩] w fun e w'=>e=.returned (.int .i64 2)∧w=w' :=
 (Tryz.strings_Count_one ZR 63 w).mono fun e w' h=>⟨h.1,h.2.symm⟩
theorem ZeK (r:Nat) (h:r<4) (w:World):Calls Tryz.prog 144 #[.string (ZR.extract 0 r),.string ⟨#[63]⟩] w fun e w'=>e=.returned (.int .i64 (r / 2:Nat))∧w=w':=by
 match r,h with
 | 0,_=>exact (Tryz.strings_Count_one (ZR.extract 0 0) 63 w).mono fun e w' h=>⟨h.1,h.2.symm⟩
 | 1,_=>exact (Tryz.strings_Count_one (ZR.extract 0 1) 63 w).mono fun e w' h=>⟨h.1,h.2.symm⟩
 | 2,_=>exact (Tryz.strings_Count_one (ZR.extract 0 2) 63 w).mono fun e w' h=>⟨h.1,h.2.symm⟩
 | 3,_=>exact (Tryz.strings_Count_one (ZR.extract 0 3) 63 w).mono fun e w' h=>⟨h.1,h.2.symm⟩
theorem Wg (n:Nat) (hn:n≤100000) (w:World) :
  Calls Tryz.prog 295 #[.string ZR,.int .i64 n] w fun e w'=>e=.returned (.int .i64 (n / 2:Nat))∧Dr w w':=by
 obtain⟨r,hr⟩:∃ r,n % 4=r:=⟨_,rfl⟩
 obtain⟨q,hq⟩:∃ q,n / 4=q:=⟨_,rfl⟩
 have hr4:r<4:=by omega
 have e1:(n:Int) % 4=(r:Int):=by omega
 have e2:(n:Int) / 4=(q:Int):=by omega
 have hv:(q:Int) * 2+(r / 2:Nat)=(n / 2:Nat):=by omega
 obtain⟨s,hs⟩:∃ s,ZR=s:=⟨_,rfl⟩
 have hz:=Vu
 have c1:=fun m=>ZcD (w:=w) (n:=m) (ZeJ (w.drewN m))
 have c2:=fun m=>ZcD (w:=w) (n:=m) (ZeK r hr4 (w.drewN m))
 rw[hs] at hz
 simp only[hs] at c1 c2
 rw[hs]
 have hzi:(s.size:Int)=4:=by omega
 obtain⟨p,hp⟩:∃ p,s.extract 0 r=p:=⟨_,rfl⟩
 have hrz:(r:Int)≤(s.size:Int):=by omega
 have hr0:(0:Int)≤(r:Int):=by omega
 have hn0:(0:Int)≤(n:Int):=by omega
 have C1:=Hd c1;have C2:=Hd c2;have HV:=Hd hv
 clear c1 c2 hv hs hr hq hz hp
 go_enter Tryz.func295,Tryz.ntmps295
 go_wp2_with fail
 go_quiet (first|(go_at_call 144;with_reducible exact C1.out _)|(go_at_call 144;with_reducible exact C2.out _))
 go_wp2_with fail
 go_ret
 exact⟨by rw[← HV.o];rfl,(Dr.refl _).drewN nq⟩
theorem ZeL (n:Nat) (hn:n≤100000) (w:World) :
  Calls Tryz.prog 262 #[.string ZR,.int .i64 n] w fun e w'=>∃ d:Nat,e=.returned (.tuple #[.int .u8 ((fdC n).toNat:Int),.int .i64 d])∧Dr w w':=by
 have hat:∀ k (h:k<ZR.size),ZR[k]=fpC k:=fun k h=>ZfI h
 have hz:=Vu
 have hho:=fun (m:Nat) (hm:m≤100000) v=>Wg m hm v
 generalize ZR=s at hat hz hho ⊢
 have hzi:(s.size:Int)=4:=by omega
 obtain⟨V,hV⟩:∃ V,fdC n=V:=⟨_,rfl⟩
 rw[hV]
 have HAT:=Hd hat;have HHO:=Hd hho;have HV:=Hd hV;have HZ:=Hd hz
 clear hat hho hV hz
 go_enter Tryz.func262,Tryz.ntmps262
 go_wp2_with fail
 go_loopw [1,6] (fun v i wr=>∃ m d:Nat,m+d≤n∧v=.int .i64 m∧i=.int .i64 d∧fdC m=V∧Dr w wr) (fun v _ _=>(intOf v).toNat)
 case atStart=>exact⟨n,0,by omega,rfl,rfl,HV.o,Dr.refl _⟩
 case round =>
  obtain⟨m,d,hmd,rfl,rfl,hfd,hdr⟩:=hrel
  have HFD:=Hd hfd
  clear hfd
  obtain⟨r,hr⟩:∃ r,m % 4=r:=⟨_,rfl⟩
  have hr4:r<4:=by omega
  have e1:(m:Int) % 4=(r:Int):=by omega
  have e2:(m:Int) % (s.size:Int)=(r:Int):=by rw[hzi];omega
  have hrs:r<s.size:=by rw[HZ.o];exact hr4
  have hrs2:(r:Int)<(s.size:Int):=by omega
  have hr0:(0:Int)≤(r:Int):=by omega
  have hm0:(0:Int)≤(m:Int):=by omega
  have hat2:=HAT.o r hrs
  by_cases hodd:m % 2=1
  ·have hc:s[r]'hrs=63:=by rw[hat2,fpC,if_pos (by omega)]
   have hfd2:fdC (m / 2)=V:=by rw[ZfJ hodd];exact HFD.o
   have hcl:=HHO.o m (by omega) wr
   have HCL:=Hd hcl;have HF2:=Hd hfd2
   clear hat2 hr hcl hfd2
   go_wp2_with fail
   refine HCL.o.mono ?_
   rintro e w1 ⟨rfl,d1⟩
   go_wp2_with fail
   go_roundw
   case rel=>exact⟨m / 2,d+1,by omega,rfl,by go_num,HF2.o,hdr.trans d1⟩
   case measure=>simp[intOf];omega
  ·have hc:s[r]'hrs=V:=by rw[hat2,← hr,ZfK hodd];exact HFD.o
   have hne:((V.toNat:Int)==63)=false:=by
    rw[beq_eq_false_iff_ne]
    intro h
    rcases Zla m with h2|h2
    ·rw[HFD.o] at h2;rw[h2] at h;exact absurd h (by decide)
    ·rw[HFD.o] at h2;rw[h2] at h;exact absurd h (by decide)
   clear hat2 hr
   go_wp2_with fail
   go_ret2
   exact⟨d,rfl,hdr⟩
theorem ZbF (n:Nat) (hn:n≤100000) (w:World) :
  Calls Tryz.prog 283 #[.string ZR,.int .i64 n] w fun e w'=>e=.returned (.int .i64 (n / 2:Nat))∧Dr w w':=by
 have hat:∀ k (h:k<ZR.size),ZR[k]=fpC k:=fun k h=>ZfI h
 have hz:=Vu
 obtain⟨r,hr⟩:∃ r,n % 4=r:=⟨_,rfl⟩
 obtain⟨q,hq⟩:∃ q,n / 4=q:=⟨_,rfl⟩
 generalize ZR=s at hat hz ⊢
 have hr4:r<4:=by omega
 have hzi:(s.size:Int)=4:=by omega
 have e1:(n:Int) % (s.size:Int)=(r:Int):=by rw[hzi];omega
 have e2:(n:Int) / (s.size:Int)=(q:Int):=by rw[hzi];omega
 have e3:(n:Int) % 4=(r:Int):=by omega
 have e4:(n:Int) / 4=(q:Int):=by omega
 have hv:(q:Int) * 2+(r / 2:Nat)=(n / 2:Nat):=by omega
 obtain⟨V,hV⟩:∃ V:Int,((n / 2:Nat):Int)=V:=⟨_,rfl⟩
 rw[hV] at hv ⊢
 have hn0:(0:Int)≤(n:Int):=by omega
 have HAT:=Hd hat;have HZ:=Hd hz;have HV:=Hd hv
 clear hat hz hr hq hv hV
 go_enter Tryz.func283,Tryz.ntmps283
 go_wp2_with fail
 go_loopw [5,6,7] (fun a b i wr=>∃ k x y:Nat,k≤4∧x≤4∧y≤4∧i=.int .i64 k∧a=.int .i64 x∧b=.int .i64 y∧k / 2=x∧min k r / 2=y∧wr=w) (fun _ _ i _=>4 - (intOf i).toNat)
 case atStart=>exact⟨0,0,0,by omega,by omega,by omega,rfl,rfl,rfl,rfl,by simp,rfl⟩
 case round =>
  obtain⟨k,x,y,hk,hx9,hy9,rfl,rfl,rfl,hx,hy,rfl⟩:=hrel
  have HX:=Hd hx;have HY:=Hd hy
  clear hx hy
  by_cases hlt:k<4
  ·have hks:k<s.size:=by rw[HZ.o];exact hlt
   have hks2:(k:Int)<(s.size:Int):=by omega
   have hk0:(0:Int)≤(k:Int):=by omega
   have hk4:(k:Int)<4:=by omega
   have hat2:=HAT.o k hks
   by_cases hodd:k % 2=1
   ·have hc:s[k]'hks=63:=by rw[hat2,fpC,if_pos hodd]
    clear hat2
    by_cases hkr:k<r
    ·have hkr2:(k:Int)<(r:Int):=by omega
     go_wp2_with fail
     go_roundw
     case rel=>exact⟨k+1,x+1,y+1,by omega,by have:=HX.o;omega,by have:=HY.o;omega,by go_num,by go_num,by go_num,by have:=HX.o;omega,by have:=HY.o;omega,by first|trivial|rfl⟩
     case measure=>simp[intOf];omega
    ·have hkr2:¬ ((k:Int)<(r:Int)):=by omega
     go_wp2_with fail
     go_roundw
     case rel=>exact⟨k+1,x+1,y,by omega,by have:=HX.o;omega,by have:=HY.o;omega,by go_num,by go_num,rfl,by have:=HX.o;omega,by have:=HY.o;omega,by first|trivial|rfl⟩
     case measure=>simp[intOf];omega
   ·have hc:((fpC k).toNat:Int)=97∨((fpC k).toNat:Int)=98:=by
     unfold fpC;rw[if_neg hodd];split
     ·exact .inl rfl
     ·exact .inr rfl
    have hne:(((s[k]'hks).toNat:Int)==63)=false:=by rw[hat2,beq_eq_false_iff_ne];omega
    clear hat2 hc
    go_wp2_with fail
    go_roundw
    case rel=>exact⟨k+1,x,y,by omega,by omega,by omega,by go_num,rfl,rfl,by have:=HX.o;omega,by have:=HY.o;omega,by first|trivial|rfl⟩
    case measure=>simp[intOf];omega
  ·have hx2:x=2:=by have:=HX.o;omega
   have hy2:y=r / 2:=by have:=HY.o;omega
   have hk4:¬ ((k:Int)<4):=by omega
   have hfin:(q:Int) * (x:Int)+(y:Int)=V:=by rw[hx2,hy2];exact HV.o
   have hqx:(0:Int)≤(q:Int) * (x:Int)∧(q:Int) * (x:Int)≤100000:=by rw[hx2];omega
   obtain⟨hqx0,hqx1⟩:=hqx
   have HF:=Hd hfin
   clear hx2 hy2 hfin
   go_wp2_with fail
   go_ret
   exact⟨by rw[← HF.o];rfl,Dr.refl _⟩
theorem Zan (n:Nat) (hn:n≤100000) (w:World) :
  Calls Tryz.prog 244 #[.string ZR,.int .i64 n] w fun e w'=>∃ d:Nat,e=.returned (.tuple #[.int .u8 ((fdC n).toNat:Int),.int .i64 d])∧Dr w w':=by
 have hat:∀ k (h:k<ZR.size),ZR[k]=fpC k:=fun k h=>ZfI h
 have hz:=Vu
 have hho:=fun (m:Nat) (hm:m≤100000) v=>ZbF m hm v
 generalize ZR=s at hat hz hho ⊢
 have hzi:(s.size:Int)=4:=by omega
 obtain⟨V,hV⟩:∃ V,fdC n=V:=⟨_,rfl⟩
 rw[hV]
 have HAT:=Hd hat;have HHO:=Hd hho;have HV:=Hd hV;have HZ:=Hd hz
 clear hat hho hV hz
 go_enter Tryz.func244,Tryz.ntmps244
 go_wp2_with fail
 go_loopw [1,6] (fun v i wr=>∃ m d:Nat,m+d≤n∧v=.int .i64 m∧i=.int .i64 d∧fdC m=V∧Dr w wr) (fun v _ _=>(intOf v).toNat)
 case atStart=>exact⟨n,0,by omega,rfl,rfl,HV.o,Dr.refl _⟩
 case round =>
  obtain⟨m,d,hmd,rfl,rfl,hfd,hdr⟩:=hrel
  have HFD:=Hd hfd
  clear hfd
  obtain⟨r,hr⟩:∃ r,m % 4=r:=⟨_,rfl⟩
  have hr4:r<4:=by omega
  have e1:(m:Int) % 4=(r:Int):=by omega
  have e2:(m:Int) % (s.size:Int)=(r:Int):=by rw[hzi];omega
  have hrs:r<s.size:=by rw[HZ.o];exact hr4
  have hrs2:(r:Int)<(s.size:Int):=by omega
  have hr0:(0:Int)≤(r:Int):=by omega
  have hm0:(0:Int)≤(m:Int):=by omega
  have hat2:=HAT.o r hrs
  by_cases hodd:m % 2=1
  ·have hc:s[r]'hrs=63:=by rw[hat2,fpC,if_pos (by omega)]
   have hfd2:fdC (m / 2)=V:=by rw[ZfJ hodd];exact HFD.o
   have hcl:=HHO.o m (by omega) wr
   have HCL:=Hd hcl;have HF2:=Hd hfd2
   clear hat2 hr hcl hfd2
   go_wp2_with fail
   refine HCL.o.mono ?_
   rintro e w1 ⟨rfl,d1⟩
   go_wp2_with fail
   go_roundw
   case rel=>exact⟨m / 2,d+1,by omega,rfl,by go_num,HF2.o,hdr.trans d1⟩
   case measure=>simp[intOf];omega
  ·have hc:s[r]'hrs=V:=by rw[hat2,← hr,ZfK hodd];exact HFD.o
   have hne:((V.toNat:Int)==63)=false:=by
    rw[beq_eq_false_iff_ne]
    intro h
    rcases Zla m with h2|h2
    ·rw[HFD.o] at h2;rw[h2] at h;exact absurd h (by decide)
    ·rw[HFD.o] at h2;rw[h2] at h;exact absurd h (by decide)
   clear hat2 hr
   go_wp2_with fail
   go_ret2
   exact⟨d,rfl,hdr⟩
theorem Wh (w:World) (hml:MlS w):Calls Tryz.prog 261 #[.string ZR] w fun e w'=>e=.returned (.bool true)∧Below w.heap.size w w':=by
 have hra:Calls Tryz.prog 294 #[.string ZR,.string { data:=#[63] },.string { data:=#[] }] w fun e w'=>e=.returned (.string { data:=#[97,98] })∧Below w.heap.size w w':=by
  obtain⟨m,hm⟩:=hml
  refine (Any.strings_ReplaceAll Tryz.laysM155.ton155 Tryz.Builder_Extra_M155 ZR { data:=#[63] } { data:=#[] } m w (by decide) hm (by decide) (by decide +kernel)).mono ?_
  rintro e w' ⟨rfl,b⟩
  exact⟨congrArg (fun l=>Ending.returned (Value.string ⟨l⟩)) (show (Lib.replaceAll ZR.data.toList [63] []).toArray=#[97,98] from by decide +kernel),b⟩
 have hle:=fun v=>V9 { data:=#[97] } (by decide) v
 rw[show YN { data:=#[97] }=true from by decide] at hle
 have hw:=fun v=>Zl { data:=#[97,98] } true (by decide) (by decide) v
 have hex:ZR.extract 0 1={ data:=#[97] }:=by decide +kernel
 have hz:=Vu
 obtain⟨s,hs⟩:∃ s,ZR=s:=⟨_,rfl⟩
 rw[hs] at hra hex hz ⊢
 have hzi:(s.size:Int)=4:=by omega
 have hz1:(1:Int)≤(s.size:Int):=by omega
 have HRA:=Hd hra;have HLE:=Hd hle;have HW:=Hd hw;have HEX:=Hd hex
 clear hra hle hw hs hz hml
 go_enter Tryz.func261,Tryz.ntmps261
 go_wp2_with (first
  | (go_at_call 65;refine (Zo _ _ _ (by omega) _).mono ?_;rintro e w1 ⟨rfl,rfl⟩)
  | (go_at_call 221;(try rw[HEX.o]);with_reducible refine (HLE.o _).mono ?_;rintro e w1 ⟨rfl,rfl⟩)
  | (go_at_call 294;with_reducible refine HRA.o.mono ?_;rintro e w1 ⟨rfl,b1⟩)
  | (go_at_call 27;with_reducible refine (HW.o _).mono ?_;rintro e w2 ⟨rfl,rfl⟩))
 go_ret
 exact⟨rfl,b1⟩
theorem Xd (w:World):Calls Tryz.prog 243 #[.string ZR] w fun e w'=>e=.returned (.bool true)∧w=w':=by
 have hat:∀ k (h:k<ZR.size),ZR[k]=fpC k:=fun k h=>ZfI h
 have hz:=Vu
 generalize ZR=s at hat hz ⊢
 have hzi:(s.size:Int)=4:=by omega
 have hs0:0<s.size:=by omega
 have hs00:(0:Int)<(s.size:Int):=by omega
 have h0:s[0]'hs0=97:=by rw[hat 0 hs0];rfl
 have HAT:=Hd hat;have HZ:=Hd hz
 clear hat hz
 go_enter Tryz.func243,Tryz.ntmps243
 go_wp2_with (go_at_call 146;refine (Zw _ _ _ (by omega) _).mono ?_;rintro e w1 ⟨rfl,rfl⟩)
 go_loopw [3] (fun i wr=>∃ k:Nat,k≤4∧i=.int .i64 k∧wr=w) (fun i _=>4 - (intOf i).toNat)
 case atStart=>exact⟨0,by omega,rfl,rfl⟩
 case round =>
  obtain⟨k,hk,rfl,rfl⟩:=hrel
  by_cases hlt:k<4
  ·have hks:k<s.size:=by rw[HZ.o];exact hlt
   have hks2:(k:Int)<(s.size:Int):=by omega
   have hk0:(0:Int)≤(k:Int):=by omega
   have hk4:(k:Int)<4:=by omega
   have hat2:=HAT.o k hks
   by_cases hodd:k % 2=1
   ·have hc:s[k]'hks=63:=by rw[hat2,fpC,if_pos hodd]
    clear hat2 h0
    go_wp2_with fail
    go_roundw
    case rel=>exact⟨k+1,by omega,by go_num,by first|trivial|rfl⟩
    case measure=>simp[intOf];omega
   ·have hc:fpC k=97∨fpC k=98:=by
     unfold fpC;rw[if_neg hodd];split
     ·exact .inl rfl
     ·exact .inr rfl
    rcases hc with hc|hc
    ·have hc2:s[k]'hks=97:=by rw[hat2,hc]
     clear hat2 hc h0
     go_wp2_with fail
     go_roundw
     case rel=>exact⟨k+1,by omega,by go_num,by first|trivial|rfl⟩
     case measure=>simp[intOf];omega
    ·have hc2:s[k]'hks=98:=by rw[hat2,hc]
     clear hat2 hc h0
     go_wp2_with fail
     go_roundw
     case rel=>exact⟨k+1,by omega,by go_num,by first|trivial|rfl⟩
     case measure=>simp[intOf];omega
  ·have hk4:¬ ((k:Int)<4):=by omega
   go_wp2_with fail
   go_ret
   exact⟨rfl,rfl⟩
theorem ZgM (n:Nat) (hn:n≤400) (w:World) (hml:MlS w) :
  Calls Tryz.prog 206 #[.string ZR,.int .i64 n] w fun e w'=>e=.returned (.tuple #[.string (Zd (fdL n)),.bool true])∧Below w.heap.size w w':=by
  have hpo:=Wh w hml
  have hfi:=fun (m:Nat) (hm:m≤100000) v=>ZeL m hm v
  obtain⟨s,hs⟩:∃ s,ZR=s:=⟨_,rfl⟩
  rw[hs] at hpo ⊢
  simp only[hs] at hfi
  have HPO:=Hd hpo;have HFI:=Hd hfi
  clear hpo hfi hs
  go_enter Tryz.func206,Tryz.ntmps206
  go_wp2_with (first
   | (go_at_call 261;refine HPO.o.mono ?_;rintro e w1 ⟨rfl,bw1⟩)
   | (go_at_call 65;refine (Zo _ _ _ (by omega) _).mono ?_;rintro e w1 ⟨rfl,rfl⟩))
  skip
  go_loopw [6,7,8,9,20] (fun b _ _ _ i wr=>∃ (k:Nat) (A:Option Addr) (c:Nat),k≤n∧i=.int .i64 k∧b=.slice A k c∧Own wr w.heap.size 5 (.slice A k c) (byV (fdL k))∧Below w.heap.size w wr) (fun _ _ _ _ i _=>n - (intOf i).toNat)
  case atStart=>exact⟨0,_,_,by omega,rfl,rfl,(Own.empty bw1.size),bw1.alloc bw1.size _⟩
  case round =>
   obtain⟨k,A,c,hk,rfl,rfl,hown,hbel⟩:=hrel
   have HO:=Hd hown;clear hown
   by_cases hlt:k<n
   ·have hcl:=HFI.o k (by omega) wr
    have hsu:=Zdr k
    obtain⟨b,hb⟩:∃ b,fdC k=b:=⟨_,rfl⟩
    rw[hb] at hcl hsu
    have HCL:=Hd hcl;have HSU:=Hd hsu
    have hl:=XL k
    have hlen:(byV (fdL k)).length=k:=by rw[Zm];exact hl
    have HLE:=Hd hlen
    have hk9:k<4294967296:=by omega
    have hlt2:(k:Int)<(n:Int):=by omega
    clear hcl hsu hb hl hlen
    go_wp2_with fail
    refine HCL.o.mono ?_
    rintro e w2 ⟨d,rfl,d2⟩
    have HO1:=Hd (HO.o.dr d2)
    have hb2:=hbel.trans d2.below
    have hsl:=hb2.size
    clear HO
    go_wp2_with (at_builtin;refine Zp rfl (.tmp 29) (.tmp 31) 22 rfl _ 1 Tryz.underlying22 ZQ rfl rfl HO1.o _ rfl rfl k HLE.o hk9 (by decide) hsl ?_)
    intro A2 c2 w3 hown2 hbel2 hsz2
    rw[ZP,← HSU.o] at hown2
    have HO2:=Hd hown2;clear hown2
    go_wp2_with fail
    go_roundw
    case rel=>exact⟨k+1,A2,c2,by omega,by go_num,rfl,HO2.o,hb2.trans hbel2⟩
    case measure=>simp[intOf];omega
   ·have hkn:k=n:=by omega
    subst hkn
    have hcv:=HO.o.reads.conv (P:=Tryz.prog) (XL k) 22 9 5 c Tryz.underlying22 Tryz.underlying5 Tryz.underlying9
    clear hlt
    go_wp2_with fail
    go_ret2
    exact⟨rfl,hbel⟩
theorem Zin (n:Int) (h:¬ (0≤n∧n≤400)) (w:World) (hml:MlS w) :
  Calls Tryz.prog 206 #[.string ZR,.int .i64 n] w fun e w'=>e=.returned (.tuple #[.string { data:=#[] },.bool false])∧Below w.heap.size w w':=by
 have HPO:=Hd (Wh w hml);have HN:=Hd (fun v=>ZK n 0 400 h v)
 clear h hml
 go_enter Tryz.func206,Tryz.ntmps206
 go_wp2_with (first
  | (go_at_call 261;refine HPO.o.mono ?_;rintro e w1 ⟨rfl,b1⟩)
  | (go_at_call 65;refine (HN.o _).mono ?_;rintro e w2 ⟨rfl,rfl⟩))
 go_ret2
 exact⟨rfl,b1⟩
theorem ZgN (n:Nat) (hn:n≤400) (w:World) :
  Calls Tryz.prog 182 #[.string ZR,.int .i64 n] w fun e w'=>e=.returned (.tuple #[.string (Zd (fdL n)),.bool true])∧Below w.heap.size w w':=by
  have hpo:=Xd w
  have hfi:=fun (m:Nat) (hm:m≤100000) v=>Zan m hm v
  obtain⟨s,hs⟩:∃ s,ZR=s:=⟨_,rfl⟩
  rw[hs] at hpo ⊢
  simp only[hs] at hfi
  have HPO:=Hd hpo;have HFI:=Hd hfi
  clear hpo hfi hs
  go_enter Tryz.func182,Tryz.ntmps182
  go_wp2_with (first
   | (go_at_call 243;refine HPO.o.mono ?_;rintro e w1 ⟨rfl,rfl⟩)
   | (go_at_call 146;refine (Zw _ _ _ (by omega) _).mono ?_;rintro e w1 ⟨rfl,rfl⟩))
  have bw1:Below w.heap.size w w:=Below.refl _ _
  go_loopw [6,7,8,9] (fun b i _ _ wr=>∃ (k:Nat) (A:Option Addr) (c:Nat),k≤n∧i=.int .i64 k∧b=.slice A k c∧Own wr w.heap.size 5 (.slice A k c) (byV (fdL k))∧Below w.heap.size w wr) (fun _ i _ _ _=>n - (intOf i).toNat)
  case atStart=>exact⟨0,_,_,by omega,rfl,rfl,(Own.empty nlr),bw1.alloc nlr _⟩
  case round =>
   obtain⟨k,A,c,hk,rfl,rfl,hown,hbel⟩:=hrel
   have HO:=Hd hown;clear hown
   by_cases hlt:k<n
   ·have hcl:=HFI.o k (by omega) wr
    have hsu:=Zdr k
    obtain⟨b,hb⟩:∃ b,fdC k=b:=⟨_,rfl⟩
    rw[hb] at hcl hsu
    have HCL:=Hd hcl;have HSU:=Hd hsu
    have hl:=XL k
    have hlen:(byV (fdL k)).length=k:=by rw[Zm];exact hl
    have HLE:=Hd hlen
    have hk9:k<4294967296:=by omega
    have hlt2:(k:Int)<(n:Int):=by omega
    clear hcl hsu hb hl hlen
    go_wp2_with fail
    refine HCL.o.mono ?_
    rintro e w2 ⟨d,rfl,d2⟩
    have HO1:=Hd (HO.o.dr d2)
    have hb2:=hbel.trans d2.below
    have hsl:=hb2.size
    clear HO
    go_wp2_with (at_builtin;refine Zp rfl (.tmp 30) (.tmp 32) 22 rfl _ 1 Tryz.underlying22 ZQ rfl rfl HO1.o _ rfl rfl k HLE.o hk9 (by decide) hsl ?_)
    intro A2 c2 w3 hown2 hbel2 hsz2
    rw[ZP,← HSU.o] at hown2
    have HO2:=Hd hown2;clear hown2
    go_wp2_with fail
    go_roundw
    case rel=>exact⟨k+1,A2,c2,by omega,by go_num,rfl,HO2.o,hb2.trans hbel2⟩
    case measure=>simp[intOf];omega
   ·have hkn:k=n:=by omega
    subst hkn
    have hcv:=HO.o.reads.conv (P:=Tryz.prog) (XL k) 22 9 5 c Tryz.underlying22 Tryz.underlying5 Tryz.underlying9
    clear hlt
    go_wp2_with fail
    go_ret2
    exact⟨rfl,hbel⟩
theorem Zio (n:Int) (h:¬ (0≤n∧n≤400)) (w:World) :
  Calls Tryz.prog 182 #[.string ZR,.int .i64 n] w fun e w'=>e=.returned (.tuple #[.string { data:=#[] },.bool false])∧Below w.heap.size w w':=by
 have HPO:=Hd (Xd w);have HN:=Hd (fun v=>ZU n 0 400 h v)
 clear h
 go_enter Tryz.func182,Tryz.ntmps182
 go_wp2_with (first
  | (go_at_call 243;refine HPO.o.mono ?_;rintro e w1 ⟨rfl,rfl⟩)
  | (go_at_call 146;refine (HN.o _).mono ?_;rintro e w2 ⟨rfl,rfl⟩))
 go_ret2
 exact⟨rfl,Below.refl _ _⟩
theorem ZgO (n:Int) (w:World) (hml:MlS w) :
  Calls Tryz.prog 130 #[.int .i64 n] w fun e w'=>e=.returned (okS (fdV n))∧Below w.heap.size w w':=by
 have hf:∀ (w:World) (hml:MlS w),Calls Tryz.prog 206 #[.string { data:=#[97,63,98,63] },.int .i64 n] w fun e w'=>e=.returned (.tuple #[.string ((fdV n).getD { data:=#[] }),.bool (fdV n).isSome])∧Below w.heap.size w w':=fun w hml=>by
  by_cases h:0≤n∧n≤400
  ·obtain⟨N,rfl⟩:=Int.eq_ofNat_of_zero_le h.1
   have hv:fdV N=some (Zd (fdL N)):=if_pos h
   rw[hv]
   exact ZgM N (by omega) w hml
  ·have hv:fdV n=none:=if_neg h
   rw[hv]
   exact Zin n h w hml
 have HF:=Hd (hf w hml)
 unfold okS
 clear hf hml
 go_enter Tryz.func130,Tryz.ntmps130
 go_wp2_with fail
 refine HF.o.mono ?_
 rintro e w1 ⟨rfl,b1⟩
 go_wp2_with fail
 go_ret2
 exact⟨rfl,b1⟩
theorem ZgP (n:Int) (w:World)  :
  Calls Tryz.prog 103 #[.int .i64 n] w fun e w'=>e=.returned (okS (fdV n))∧Below w.heap.size w w':=by
 have hf:∀ (w:World) ,Calls Tryz.prog 182 #[.string { data:=#[97,63,98,63] },.int .i64 n] w fun e w'=>e=.returned (.tuple #[.string ((fdV n).getD { data:=#[] }),.bool (fdV n).isSome])∧Below w.heap.size w w':=fun  w=>by
  by_cases h:0≤n∧n≤400
  ·obtain⟨N,rfl⟩:=Int.eq_ofNat_of_zero_le h.1
   have hv:fdV N=some (Zd (fdL N)):=if_pos h
   rw[hv]
   exact ZgN N (by omega)  w
  ·have hv:fdV n=none:=if_neg h
   rw[hv]
   exact Zio n h  w
 have HF:=Hd (hf  w)
 unfold okS
 clear hf
 go_enter Tryz.func103,Tryz.ntmps103
 go_wp2_with fail
 refine HF.o.mono ?_
 rintro e w1 ⟨rfl,b1⟩
 go_wp2_with fail
 go_ret2
 exact⟨rfl,b1⟩
end Go.Proofs.YtocbgldilgemoaaGreatDoor
