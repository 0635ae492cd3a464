/- ParentOf, both, at valid substitutions and words. Asks the shelf's text (strings.HasPrefix). No condition but the bounds. -/
import Derived.Test.YtocbgldilgemoaaGreatDoorItw
namespace Go.Proofs.YtocbgldilgemoaaGreatDoor
set_option maxRecDepth 8000
set_option maxHeartbeats 4000000
open Go.RowKit
set_option linter.unusedVariables false
def nV (l:List Nat):List Value:=l.map fun x:Nat=>Value.int .i64 (x:Int)
theorem Zca (l:List Nat):(nV l).length=l.length:=by simp[nV]
theorem Xg {l:List Nat} {k x:Nat} (h:l[k]? = some x):(nV l)[k]? = some (.int .i64 (x:Int)):=by rw[nV,List.getElem?_map,h];rfl
theorem Zcb (l:List Nat) (k x:Nat):(nV l).set k (.int .i64 (x:Int))=nV (l.set k x):=by rw[nV,nV,List.map_set]
theorem Zcc (i a b:Nat) (r:List Nat):(List.replicate i 0++a :: r).set i b=List.replicate i 0++b :: r:=by
 rw[List.set_append_right _ _ (by simp)];simp
theorem Zf8 (i a:Nat) (r:List Nat):(List.replicate i 0++a :: r)[i]? = some a:=by
 rw[List.getElem?_append_right (by simp)];simp
theorem Zji (i a:Nat) (r:List Nat) {k x:Nat} (h:r[k]? = some x):(List.replicate i 0++a :: r)[i+(k+1)]? = some x:=by
 rw[List.getElem?_append_right (by simp)]
 simp[h]
theorem ZdP {P:Program} (w:World) (ts:Array TypeId) (t:TypeId) (a b:Int):(Builtin.min_ ts t #[.int .i64 a,.int .i64 b]).run P w=.ok (.int .i64 (min a b)) w:=by
 have h:∀ x y:Int,(if y<x then y else x)=min x y:=fun x y=>by split<;>omega
 simp only[← h]
 simp[Builtin.min_,Builtin.min2]
theorem Zf9 {s x:ByteArray} {i:Nat}:JS x ((L s).drop i)=decide (i+x.size≤s.size∧s.extract i (i+x.size)=x)∨s.size<i:=by
 by_cases hi:s.size<i
 ·exact .inr hi
 ·left
  by_cases h:JS x ((L s).drop i)=true
  ·have hl:=VA h
   rw[List.length_drop,Zj] at hl
   have h2:=Zf4.1 h
   rw[h,eq_comm,decide_eq_true_eq]
   refine⟨by omega,?_⟩
   apply ZH
   show L _=L x
   rw[Zi3,h2]
  ·rw[Bool.eq_false_iff.2 h,eq_comm,decide_eq_false_iff_not]
   rintro ⟨h1,h2⟩
   refine h (Zf4.2 ?_)
   rw[← Zi3,h2]
theorem Zga {s x:ByteArray} {i:Nat} (hi:i≤s.size) (h:JS x ((L s).drop i)=true):i+x.size≤s.size∧s.extract i (i+x.size)=x:=by
 rcases Zf9 (s:=s) (x:=x) (i:=i) with h2|h2
 ·rw[h] at h2;exact of_decide_eq_true h2.symm
 ·omega
theorem Zjj {s x:ByteArray} {i:Nat} (hi:i≤s.size) (h:JS x ((L s).drop i)=false) (h1:i+x.size≤s.size):s.extract i (i+x.size)≠x:=fun h3=>by
 rcases Zf9 (s:=s) (x:=x) (i:=i) with h2|h2
 ·rw[h] at h2;exact of_decide_eq_false h2.symm ⟨h1,h3⟩
 ·omega
theorem Zjk (s x:ByteArray) (i:Nat) (w:World):Calls Tryz.prog 189 #[.string (s.extract i s.size),.string x] w fun e w'=>e=.returned (.bool (JS x ((L s).drop i)))∧w=w':=by
 refine (Tryz.strings_HasPrefix (s.extract i s.size) x w).mono ?_
 rintro e w' ⟨rfl,rfl⟩
 refine⟨?_,rfl⟩
 have:L (s.extract i s.size)=(L s).drop i:=Zi2 s i
 show Ending.returned (Value.bool (Lib.hasPrefix (L (s.extract i s.size)) (L x)))=_
 rw[this];rfl
theorem YV (zs:List ByteArray) (A:Option Addr) (nz cz B:Nat) (s:ByteArray) (w:World) (hl:zs.length=nz) (hsu:Zf zs=true) (hs:s.size≤400) (hrd:Rds w B A (zs.map Value.string)) (hB:B≤w.heap.size) :
  Calls Tryz.prog 188 #[.agg #[.slice A nz cz],.string s] w fun e w'=>∃ g,e=.returned (.slice (some ⟨g,0,none⟩) (s.size+1) (s.size+1))∧Own w' w.heap.size 3 (.slice (some ⟨g,0,none⟩) (s.size+1) (s.size+1)) (nV (wyL zs (L s)))∧Below w.heap.size w w':=by
 obtain⟨hz4,hz⟩:=ZE hsu
 have bA:Below w.heap.size w (w.alloc (.cells #[.slice A nz cz] 26)):=(Below.refl _ _).alloc nlr _
 have zA:(w.alloc (.cells #[.slice A nz cz] 26)).heap.size=w.heap.size+1:=by simp
 have h0:=cell_of_row _ _ 0 _ _ (0,0) (heap_alloc_new w (.cells #[.slice A nz cz] 26))
 have hlen:=Zj s
 obtain⟨l,hll⟩:∃ l,L s=l:=⟨_,rfl⟩
 have hte:=fun (x:ByteArray) (i:Nat) v=>Zjk s x i v
 rw[hll] at hlen hte ⊢
 obtain⟨n,hn⟩:∃ n,s.size=n:=⟨_,rfl⟩
 have hmk:=run_make_row' (P:=Tryz.prog) 83 3 _ 8 Tryz.underlying83 Zu rfl .i64 .i64 (s.size+1) (by omega) (by omega)
 have hmin:=fun (w:World) (a b:Int)=>ZdP (P:=Tryz.prog) w #[3,3] 3 a b
 simp only[show ((s.size+1:Nat):Int)=(s.size:Int)+1 from by omega] at hmk
 have H0:=Hd h0;have HRD:=Hd hrd;have HZ:=Hd hz;have HLEN:=Hd hlen;have HTE:=Hd hte;have HNZ:=Hd hl;have HMIN:=Hd hmin
 have hown0:Own ((w.alloc (.cells #[.slice A nz cz] 26)).alloc (.cells (madeCells #[.int .i64 0] (s.size+1)) 3)) (w.heap.size+1) 3 (.slice (some ⟨w.heap.size+1,0,none⟩) (s.size+1) (s.size+1)) (nV (List.replicate s.size 0++[0])):=by
  have h:=Own.made (w:=w.alloc (.cells #[.slice A nz cz] 26)) (B:=w.heap.size+1) (E:=3) (z:=.int .i64 0) (n:=s.size+1) (by omega) (by unfold maxLen;omega)
  rw[zA] at h
  rw[show nV (List.replicate s.size 0++[0])=List.replicate (s.size+1) (.int .i64 0) from by rw[← List.replicate_succ'];simp[nV]]
  exact h
 obtain⟨g0,hg0,hBg0,hgs0,hcell0,hfr0,hst0⟩:=hown0.store (k:=s.size) (by rw[Zca];simp)
 injection hg0 with hg0
 injection hg0 with hg0
 subst hg0
 have hst1:=hst0 (.int .i64 ((1:Nat):Int))
 rw[Zcb,Zcc] at hst1
 rw[show ((1:Nat):Int)=1 from rfl,World.setCell_alloc_at _ _ _ _ _ (by simp)] at hst1
 rw[Xg (Zf8 s.size 0 [])] at hcell0
 have HST1:=Hd hst1
 have bB:Below w.heap.size w ((w.alloc (.cells #[.slice A nz cz] 26)).alloc (.cells (madeCells #[.int .i64 0] (s.size+1)) 3)):=bA.alloc (by omega) _
 have zB:((w.alloc (.cells #[.slice A nz cz] 26)).alloc (.cells (madeCells #[.int .i64 0] (s.size+1)) 3)).heap.size=w.heap.size+2:=by simp
 have hsz1:(s.size:Int)<(s.size:Int)+1:=by omega
 have hnz4:nz≤4:=by omega
 clear h0 hrd hz hlen hte hl hown0 hst0 hst1 hsu hmin hn
 go_enter Tryz.func188,Tryz.ntmps188
 go_wp2_with fail
 go_loopw [6,8] (fun i _ wr=>∃ j:Nat,j≤s.size∧i=.int .i64 ((j:Int) - 1)∧Own wr (w.heap.size+1) 3 (.slice (some ⟨w.heap.size+1,0,none⟩) (s.size+1) (s.size+1)) (nV (List.replicate j 0++wyL zs (l.drop j)))∧wr.cell? ⟨w.heap.size,0,none⟩=some (.slice A nz cz)∧w.heap.size+2≤wr.heap.size∧Below w.heap.size w wr) (fun i _ _=>(intOf i+1).toNat)
 case atStart =>
  refine⟨s.size,by omega,by go_num,?_,?_,?_,?_⟩
  ·rw[List.drop_eq_nil_of_le (by have:=HLEN.o;omega)]
   exact HST1.o.1
  ·exact (HST1.o.2.1.cell (p:=⟨w.heap.size,0,none⟩) (by show w.heap.size<w.heap.size+1;omega)).trans ((((Below.refl _ _).alloc nlr _).cell (p:=⟨w.heap.size,0,none⟩) (by show w.heap.size<_;omega)).trans H0.o)
  ·simp
  ·exact bB.trans (HST1.o.2.1.mono (by omega))
 case round =>
  clear hmk hcell0 hfr0 hgs0 hBg0 HST1
  obtain⟨j,hj,rfl,hown,hbox,hsz,hbel⟩:=hrel
  have HO:=Hd hown
  clear hown
  by_cases hj0:0<j
  ·obtain⟨i,hi⟩:∃ i,j=i+1:=⟨j - 1,by omega⟩
   subst hi
   have hwyd:∃ d,l.drop i=d :: l.drop (i+1):=by
    have h:=List.drop_eq_getElem_cons (l:=l) (i:=i) (by have:=HLEN.o;omega)
    exact⟨_,h⟩
   obtain⟨d,hd⟩:=hwyd
   have hwy:wyL zs (l.drop i)=zs.foldl (wyA (l.drop i) (wyL zs (l.drop (i+1)))) 0 :: wyL zs (l.drop (i+1)):=by rw[hd,wyL]
   have hrl:=Ys zs (l.drop (i+1))
   have hr9:=Ze2 zs (l.drop (i+1))
   have hdl:(l.drop i).length=s.size - i:=by rw[List.length_drop,HLEN.o]
   rw[List.length_drop,HLEN.o] at hrl
   have hO:=HO.o
   rw[show List.replicate (i+1) 0++wyL zs (l.drop (i+1))=List.replicate i 0++0 :: wyL zs (l.drop (i+1)) from by rw[List.replicate_succ',List.append_assoc];rfl] at hO
   obtain⟨r,hr⟩:∃ r,wyL zs (l.drop (i+1))=r:=⟨_,rfl⟩
   obtain⟨V,hV⟩:∃ V,zs.foldl (wyA (l.drop i) r) 0=V:=⟨_,rfl⟩
   rw[hr] at hwy hrl hr9 hO
   rw[hV] at hwy
   have hV0:(zs.drop 0).foldl (wyA (l.drop i) r) 0=V:=hV
   have hji:((i+1:Nat):Int) - 1=(i:Int):=by omega
   rw[hji]
   clear hji
   have hi0:(0:Int)≤(i:Int):=by omega
   have HWY:=Hd hwy;have HRL:=Hd hrl;have HR9:=Hd hr9;have HO1:=Hd hO;have HV0:=Hd hV0;have HDL:=Hd hdl
   obtain⟨wo,hwo⟩:∃ x,x=wr:=⟨_,rfl⟩
   subst hwo
   clear hwy hrl hr9 hO hV0 hV hr hd hdl HO
   go_wp2_with fail
   go_loopw [8,27] (fun _ q wr=>∃ (k a:Nat),k≤nz∧q=.int .i64 k∧a≤1000000∧(zs.drop k).foldl (wyA (l.drop i) r) a=V∧Own wr (w.heap.size+1) 3 (.slice (some ⟨w.heap.size+1,0,none⟩) (s.size+1) (s.size+1)) (nV (List.replicate i 0++a :: r))∧Below (w.heap.size+1) wo wr) (fun _ q _=>nz - (intOf q).toNat)
   case atStart=>exact⟨0,0,by omega,rfl,by omega,HV0.o,HO1.o,Below.refl _ _⟩
   case round =>
    clear HV0 HO1
    obtain⟨k,a,hk,rfl,ha,hfo,hown,hbel2⟩:=hrel
    have HFO:=Hd hfo
    have hbox2:=(hbel2.cell (p:=⟨w.heap.size,0,none⟩) (by show w.heap.size<w.heap.size+1;omega)).trans hbox
    have hsz2:=hbel2.size
    have hbw:Below w.heap.size w wr:=hbel.trans (hbel2.mono (by omega))
    clear hfo
    by_cases hlt:k<nz
    ·obtain⟨x,hx⟩:=Zc (l:=zs) (k:=k) (by have:=HNZ.o;omega)
     have hxz:=HZ.o x (List.mem_of_getElem? hx)
     obtain⟨hx1,hx8,_⟩:=hxz
     obtain⟨ad,rfl,hcx⟩:=(HRD.o.below hbw hB).at_ (Zs Value.string hx)
     have hfo2:=HFO.o
     rw[ZT hx,List.foldl_cons] at hfo2
     have hlt2:(k:Int)<(nz:Int):=by omega
     have his:(i:Int)≤(s.size:Int):=by omega
     cases hp:JS x (l.drop i) with
     | true =>
      have hpl:=VA hp
      rw[HDL.o] at hpl
      obtain⟨e,he⟩:=Zc (l:=r) (k:=x.size - 1) (by have:=HRL.o;omega)
      have hed:r.getD (x.size - 1) 0=e:=by rw[List.getD_eq_getElem?_getD,he];rfl
      have he9:=HR9.o e (List.mem_of_getElem? he)
      have hwa:wyA (l.drop i) r a x=min (a+e) 1000000:=by rw[wyA,if_pos hp,hed]
      rw[hwa] at hfo2
      have hfar:=Zji i a r he
      rw[show i+(x.size - 1+1)=i+x.size by omega] at hfar
      obtain⟨u,hu⟩:∃ u,i+x.size=u:=⟨_,rfl⟩
      rw[hu] at hfar
      obtain⟨g,hg,hBg,hgs,hcell,hfr,hst⟩:=hown.store (k:=i) (by rw[Zca];simp)
      injection hg with hg
      injection hg with hg
      subst hg
      have hcu:wr.cell? ⟨w.heap.size+1,u,none⟩=some (.int .i64 (e:Int)):=by
       obtain⟨ad2,had,hc⟩:=hown.reads.at_ (Xg hfar)
       injection had with had
       subst had
       rw[show (⟨w.heap.size+1,0,none⟩:Addr).add u=⟨w.heap.size+1,u,none⟩ from by unfold Addr.add;split<;>simp_all] at hc
       exact hc
      rw[Xg (Zf8 i a r)] at hcell
      obtain⟨b,hb⟩:∃ b,min (a+e) 1000000=b:=⟨_,rfl⟩
      rw[hb] at hfo2
      have hb9:b≤1000000:=by omega
      have hst1:=hst (.int .i64 (b:Int))
      rw[Zcb,Zcc] at hst1
      have HST:=Hd hst1;have HF2:=Hd hfo2
      have m1:(i:Int)+(x.size:Int)=(u:Int):=by omega
      have m2:(u:Int)<(s.size:Int)+1:=by omega
      have m3:IntKind.i64.wrap ((i:Int)+(x.size:Int))=(u:Int):=by rw[IntWalk.i64_in _ (by omega)];omega
      have m4:IntKind.i64.wrap ((a:Int)+(e:Int))=(a:Int)+(e:Int):=IntWalk.i64_in _ (by omega)
      have m5:(i:Int)<(s.size:Int)+1:=by omega
      have m6:(0:Int)≤(u:Int):=by omega
      have m8:min ((a:Int)+(e:Int)) 1000000=(b:Int):=by omega
      have m9:min (1000000:Int) ((a:Int)+(e:Int))=(b:Int):=by omega
      have hmn:=HMIN.o
      have hpf:=HTE.o x i wr;rw[hp] at hpf;have HPF:=Hd hpf;clear hp hpf
      clear hfar hst hst1 hfo2 hed he hx hwa hown hpl hb
      go_wp2_with (go_at_call 189;with_reducible refine HPF.o.mono ?_;rintro e w' ⟨rfl,rfl⟩)
      go_region
      all_goals
       clear m1 m2 m3 m4 m5 m6 m8 m9 hcell hfr hcu hcx hmn
       go_wp2_with fail
       go_roundw
       case rel=>first|exact⟨k+1,b,by omega,by go_num,hb9,HF2.o,HST.o.1.dr (Dr.refl _).drew,(hbel2.trans HST.o.2.1).trans ((Dr.refl _).drew).below⟩|(repeat apply Exists.intro);exact⟨⟨k+1,b,by omega,by go_num,hb9,HF2.o,HST.o.1.dr (Dr.refl _).drew,(hbel2.trans HST.o.2.1).trans ((Dr.refl _).drew).below⟩,rfl⟩
       case measure=>simp[intOf];omega
     | false =>
      have hwa:wyA (l.drop i) r a x=a:=by rw[wyA,hp];rfl
      rw[hwa] at hfo2
      have HF2:=Hd hfo2;have HO2:=Hd hown
      have hpf:=HTE.o x i wr
      rw[hp] at hpf
      have HPF:=Hd hpf
      clear hfo2 hx hwa hown hp hpf
      go_wp2_with (go_at_call 189;with_reducible refine HPF.o.mono ?_;rintro e w' ⟨rfl,rfl⟩)
      go_roundw
      case rel=>first|exact⟨k+1,a,by omega,by go_num,ha,HF2.o,HO2.o,hbel2⟩|(repeat apply Exists.intro);exact⟨⟨k+1,a,by omega,by go_num,ha,HF2.o,HO2.o,hbel2⟩,rfl⟩
      case measure=>simp[intOf];omega
    ·have hkn:k=nz:=by omega
     have hd0:zs.drop k=[]:=List.drop_eq_nil_of_le (by have:=HNZ.o;omega)
     have hfin:a=V:=by rw[← HFO.o,hd0];rfl
     have hO:=hown
     rw[hfin,← HWY.o] at hO
     have HO2:=Hd hO
     clear hd0 hfin hO hown
     go_wp2_with fail
     go_roundw
     case rel=>exact⟨i,by omega,by first|done|go_num,HO2.o,hbox2,by omega,hbw⟩
     case measure=>first|(simp[intOf];done)|(simp[intOf];omega)
  ·have hj00:j=0:=by omega
   subst hj00
   have hO:=HO.o
   rw[List.drop_zero] at hO
   have HO2:=Hd hO
   clear hO HO
   go_wp2_with fail
   go_ret
   exact⟨w.heap.size+1,rfl,HO2.o.lower (by omega),hbel⟩
theorem ZdQ (zs:List ByteArray) (A:Option Addr) (nz cz B:Nat) (s:ByteArray) (w:World) (hl:zs.length=nz) (hsu:Zf zs=true) (hs:s.size≤400) (hrd:Rds w B A (zs.map Value.string)) (hB:B≤w.heap.size) :
  Calls Tryz.prog 241 #[.agg #[.slice A nz cz],.string s] w fun e w'=>∃ g,e=.returned (.slice (some ⟨g,0,none⟩) (s.size+1) (s.size+1))∧Own w' w.heap.size 3 (.slice (some ⟨g,0,none⟩) (s.size+1) (s.size+1)) (nV (wyL zs (L s)))∧Below w.heap.size w w':=by
 obtain⟨hz4,hz⟩:=ZE hsu
 have bA:Below w.heap.size w (w.alloc (.cells #[.slice A nz cz] 26)):=(Below.refl _ _).alloc nlr _
 have zA:(w.alloc (.cells #[.slice A nz cz] 26)).heap.size=w.heap.size+1:=by simp
 have h0:=cell_of_row _ _ 0 _ _ (0,0) (heap_alloc_new w (.cells #[.slice A nz cz] 26))
 have hlen:=Zj s
 obtain⟨l,hll⟩:∃ l,L s=l:=⟨_,rfl⟩
 have hte:=fun (x:ByteArray) (i:Nat) (hi:i≤s.size)=>(⟨fun h=>Zga hi h,fun h h1=>Zjj hi h h1⟩:(JS x ((L s).drop i)=true→i+x.size≤s.size∧s.extract i (i+x.size)=x)∧(JS x ((L s).drop i)=false→i+x.size≤s.size→s.extract i (i+x.size)≠x))
 rw[hll] at hlen hte ⊢
 obtain⟨n,hn⟩:∃ n,s.size=n:=⟨_,rfl⟩
 have hmk:=run_make_row' (P:=Tryz.prog) 83 3 _ 8 Tryz.underlying83 Zu rfl .i64 .i64 (s.size+1) (by omega) (by omega)
 have hmin:=fun (w:World) (a b:Int)=>ZdP (P:=Tryz.prog) w #[3,3] 3 a b
 simp only[show ((s.size+1:Nat):Int)=(s.size:Int)+1 from by omega] at hmk
 have H0:=Hd h0;have HRD:=Hd hrd;have HZ:=Hd hz;have HLEN:=Hd hlen;have HTE:=Hd hte;have HNZ:=Hd hl;have HMIN:=Hd hmin
 have hown0:Own ((w.alloc (.cells #[.slice A nz cz] 26)).alloc (.cells (madeCells #[.int .i64 0] (s.size+1)) 3)) (w.heap.size+1) 3 (.slice (some ⟨w.heap.size+1,0,none⟩) (s.size+1) (s.size+1)) (nV (List.replicate s.size 0++[0])):=by
  have h:=Own.made (w:=w.alloc (.cells #[.slice A nz cz] 26)) (B:=w.heap.size+1) (E:=3) (z:=.int .i64 0) (n:=s.size+1) (by omega) (by unfold maxLen;omega)
  rw[zA] at h
  rw[show nV (List.replicate s.size 0++[0])=List.replicate (s.size+1) (.int .i64 0) from by rw[← List.replicate_succ'];simp[nV]]
  exact h
 obtain⟨g0,hg0,hBg0,hgs0,hcell0,hfr0,hst0⟩:=hown0.store (k:=s.size) (by rw[Zca];simp)
 injection hg0 with hg0
 injection hg0 with hg0
 subst hg0
 have hst1:=hst0 (.int .i64 ((1:Nat):Int))
 rw[Zcb,Zcc] at hst1
 rw[show ((1:Nat):Int)=1 from rfl,World.setCell_alloc_at _ _ _ _ _ (by simp)] at hst1
 rw[Xg (Zf8 s.size 0 [])] at hcell0
 have HST1:=Hd hst1
 have bB:Below w.heap.size w ((w.alloc (.cells #[.slice A nz cz] 26)).alloc (.cells (madeCells #[.int .i64 0] (s.size+1)) 3)):=bA.alloc (by omega) _
 have zB:((w.alloc (.cells #[.slice A nz cz] 26)).alloc (.cells (madeCells #[.int .i64 0] (s.size+1)) 3)).heap.size=w.heap.size+2:=by simp
 have hsz1:(s.size:Int)<(s.size:Int)+1:=by omega
 have hnz4:nz≤4:=by omega
 clear h0 hrd hz hlen hte hl hown0 hst0 hst1 hsu hmin hn
 go_enter Tryz.func241,Tryz.ntmps241
 go_wp2_with fail
 go_loopw [6,8] (fun i _ wr=>∃ j:Nat,j≤s.size∧i=.int .i64 ((j:Int) - 1)∧Own wr (w.heap.size+1) 3 (.slice (some ⟨w.heap.size+1,0,none⟩) (s.size+1) (s.size+1)) (nV (List.replicate j 0++wyL zs (l.drop j)))∧wr.cell? ⟨w.heap.size,0,none⟩=some (.slice A nz cz)∧w.heap.size+2≤wr.heap.size∧Below w.heap.size w wr) (fun i _ _=>(intOf i+1).toNat)
 case atStart =>
  refine⟨s.size,by omega,by go_num,?_,?_,?_,?_⟩
  ·rw[List.drop_eq_nil_of_le (by have:=HLEN.o;omega)]
   exact HST1.o.1
  ·exact (HST1.o.2.1.cell (p:=⟨w.heap.size,0,none⟩) (by show w.heap.size<w.heap.size+1;omega)).trans ((((Below.refl _ _).alloc nlr _).cell (p:=⟨w.heap.size,0,none⟩) (by show w.heap.size<_;omega)).trans H0.o)
  ·simp
  ·exact bB.trans (HST1.o.2.1.mono (by omega))
 case round =>
  clear hmk hcell0 hfr0 hgs0 hBg0 HST1
  obtain⟨j,hj,rfl,hown,hbox,hsz,hbel⟩:=hrel
  have HO:=Hd hown
  clear hown
  by_cases hj0:0<j
  ·obtain⟨i,hi⟩:∃ i,j=i+1:=⟨j - 1,by omega⟩
   subst hi
   have hwyd:∃ d,l.drop i=d :: l.drop (i+1):=by
    have h:=List.drop_eq_getElem_cons (l:=l) (i:=i) (by have:=HLEN.o;omega)
    exact⟨_,h⟩
   obtain⟨d,hd⟩:=hwyd
   have hwy:wyL zs (l.drop i)=zs.foldl (wyA (l.drop i) (wyL zs (l.drop (i+1)))) 0 :: wyL zs (l.drop (i+1)):=by rw[hd,wyL]
   have hrl:=Ys zs (l.drop (i+1))
   have hr9:=Ze2 zs (l.drop (i+1))
   have hdl:(l.drop i).length=s.size - i:=by rw[List.length_drop,HLEN.o]
   rw[List.length_drop,HLEN.o] at hrl
   have hO:=HO.o
   rw[show List.replicate (i+1) 0++wyL zs (l.drop (i+1))=List.replicate i 0++0 :: wyL zs (l.drop (i+1)) from by rw[List.replicate_succ',List.append_assoc];rfl] at hO
   obtain⟨r,hr⟩:∃ r,wyL zs (l.drop (i+1))=r:=⟨_,rfl⟩
   obtain⟨V,hV⟩:∃ V,zs.foldl (wyA (l.drop i) r) 0=V:=⟨_,rfl⟩
   rw[hr] at hwy hrl hr9 hO
   rw[hV] at hwy
   have hV0:(zs.drop 0).foldl (wyA (l.drop i) r) 0=V:=hV
   have hji:((i+1:Nat):Int) - 1=(i:Int):=by omega
   rw[hji]
   clear hji
   have hi0:(0:Int)≤(i:Int):=by omega
   have HWY:=Hd hwy;have HRL:=Hd hrl;have HR9:=Hd hr9;have HO1:=Hd hO;have HV0:=Hd hV0;have HDL:=Hd hdl
   obtain⟨wo,hwo⟩:∃ x,x=wr:=⟨_,rfl⟩
   subst hwo
   clear hwy hrl hr9 hO hV0 hV hr hd hdl HO
   go_wp2_with fail
   go_loopw [8,27] (fun _ q wr=>∃ (k a:Nat),k≤nz∧q=.int .i64 k∧a≤1000000∧(zs.drop k).foldl (wyA (l.drop i) r) a=V∧Own wr (w.heap.size+1) 3 (.slice (some ⟨w.heap.size+1,0,none⟩) (s.size+1) (s.size+1)) (nV (List.replicate i 0++a :: r))∧Below (w.heap.size+1) wo wr) (fun _ q _=>nz - (intOf q).toNat)
   case atStart=>exact⟨0,0,by omega,rfl,by omega,HV0.o,HO1.o,Below.refl _ _⟩
   case round =>
    clear HV0 HO1
    obtain⟨k,a,hk,rfl,ha,hfo,hown,hbel2⟩:=hrel
    have HFO:=Hd hfo
    have hbox2:=(hbel2.cell (p:=⟨w.heap.size,0,none⟩) (by show w.heap.size<w.heap.size+1;omega)).trans hbox
    have hsz2:=hbel2.size
    have hbw:Below w.heap.size w wr:=hbel.trans (hbel2.mono (by omega))
    clear hfo
    by_cases hlt:k<nz
    ·obtain⟨x,hx⟩:=Zc (l:=zs) (k:=k) (by have:=HNZ.o;omega)
     have hxz:=HZ.o x (List.mem_of_getElem? hx)
     obtain⟨hx1,hx8,_⟩:=hxz
     obtain⟨ad,rfl,hcx⟩:=(HRD.o.below hbw hB).at_ (Zs Value.string hx)
     have hfo2:=HFO.o
     rw[ZT hx,List.foldl_cons] at hfo2
     have hlt2:(k:Int)<(nz:Int):=by omega
     have his:(i:Int)≤(s.size:Int):=by omega
     cases hp:JS x (l.drop i) with
     | true =>
      have hpl:=VA hp
      rw[HDL.o] at hpl
      obtain⟨e,he⟩:=Zc (l:=r) (k:=x.size - 1) (by have:=HRL.o;omega)
      have hed:r.getD (x.size - 1) 0=e:=by rw[List.getD_eq_getElem?_getD,he];rfl
      have he9:=HR9.o e (List.mem_of_getElem? he)
      have hwa:wyA (l.drop i) r a x=min (a+e) 1000000:=by rw[wyA,if_pos hp,hed]
      rw[hwa] at hfo2
      have hfar:=Zji i a r he
      rw[show i+(x.size - 1+1)=i+x.size by omega] at hfar
      obtain⟨u,hu⟩:∃ u,i+x.size=u:=⟨_,rfl⟩
      rw[hu] at hfar
      obtain⟨g,hg,hBg,hgs,hcell,hfr,hst⟩:=hown.store (k:=i) (by rw[Zca];simp)
      injection hg with hg
      injection hg with hg
      subst hg
      have hcu:wr.cell? ⟨w.heap.size+1,u,none⟩=some (.int .i64 (e:Int)):=by
       obtain⟨ad2,had,hc⟩:=hown.reads.at_ (Xg hfar)
       injection had with had
       subst had
       rw[show (⟨w.heap.size+1,0,none⟩:Addr).add u=⟨w.heap.size+1,u,none⟩ from by unfold Addr.add;split<;>simp_all] at hc
       exact hc
      rw[Xg (Zf8 i a r)] at hcell
      obtain⟨b,hb⟩:∃ b,min (a+e) 1000000=b:=⟨_,rfl⟩
      rw[hb] at hfo2
      have hb9:b≤1000000:=by omega
      have hst1:=hst (.int .i64 (b:Int))
      rw[Zcb,Zcc] at hst1
      have HST:=Hd hst1;have HF2:=Hd hfo2
      have m1:(i:Int)+(x.size:Int)=(u:Int):=by omega
      have m2:(u:Int)<(s.size:Int)+1:=by omega
      have m3:IntKind.i64.wrap ((i:Int)+(x.size:Int))=(u:Int):=by rw[IntWalk.i64_in _ (by omega)];omega
      have m4:IntKind.i64.wrap ((a:Int)+(e:Int))=(a:Int)+(e:Int):=IntWalk.i64_in _ (by omega)
      have m5:(i:Int)<(s.size:Int)+1:=by omega
      have m6:(0:Int)≤(u:Int):=by omega
      have m8:min ((a:Int)+(e:Int)) 1000000=(b:Int):=by omega
      have m9:min (1000000:Int) ((a:Int)+(e:Int))=(b:Int):=by omega
      have hmn:=HMIN.o
      have hy:=(HTE.o x i (by omega)).1 hp;have hc1:(i:Int)+(x.size:Int)≤(s.size:Int):=(by omega);have hc2:((s.extract i u).toList==x.toList)=true:=(Jp _ _).trans (decide_eq_true (by rw[← hu,hy.2]));have hiu:(i:Int)≤(u:Int):=(by omega);have hus:(u:Int)≤(s.size:Int):=(by omega);clear hp hy
      clear hfar hst hst1 hfo2 hed he hx hwa hown hpl hb
      go_wp2_with (fail)
      go_region
      all_goals
       clear m1 m2 m3 m4 m5 m6 m8 m9 hcell hfr hcu hcx hmn
       go_wp2_with fail
       go_roundw
       case rel=>first|exact⟨k+1,b,by omega,by go_num,hb9,HF2.o,HST.o.1.dr (Dr.refl _).drew,(hbel2.trans HST.o.2.1).trans ((Dr.refl _).drew).below⟩|(repeat apply Exists.intro);exact⟨⟨k+1,b,by omega,by go_num,hb9,HF2.o,HST.o.1.dr (Dr.refl _).drew,(hbel2.trans HST.o.2.1).trans ((Dr.refl _).drew).below⟩,rfl⟩
       case measure=>simp[intOf];omega
     | false =>
      have hwa:wyA (l.drop i) r a x=a:=by rw[wyA,hp];rfl
      rw[hwa] at hfo2
      have HF2:=Hd hfo2;have HO2:=Hd hown
      have hno:=HTE.o x i (by omega)
      rw[hp] at hno
      by_cases hle:i+x.size≤s.size
      ·have hne:=hno.2 rfl hle
       have hc1:(i:Int)+(x.size:Int)≤(s.size:Int):=by omega
       have hc2:((s.extract i (i+x.size)).toList==x.toList)=false:=Zr hne
       have hi2:(i:Int)≤(i:Int)+(x.size:Int):=by omega
       have hnt:((i:Int)+(x.size:Int)).toNat=i+x.size:=by omega
       clear hfo2 hx hwa hown hp hno hne
       go_wp2_with fail
       go_roundw
       case rel=>exact⟨k+1,a,by omega,by go_num,ha,HF2.o,HO2.o,hbel2⟩
       case measure=>simp[intOf];omega
      ·have hc1:decide ((i:Int)+(x.size:Int)≤(s.size:Int))=false:=decide_eq_false (by omega)
       clear hfo2 hx hwa hown hp hno
       go_wp2_with fail
       go_roundw
       case rel=>exact⟨k+1,a,by omega,by go_num,ha,HF2.o,HO2.o,hbel2⟩
       case measure=>simp[intOf];omega
    ·have hkn:k=nz:=by omega
     have hd0:zs.drop k=[]:=List.drop_eq_nil_of_le (by have:=HNZ.o;omega)
     have hfin:a=V:=by rw[← HFO.o,hd0];rfl
     have hO:=hown
     rw[hfin,← HWY.o] at hO
     have HO2:=Hd hO
     clear hd0 hfin hO hown
     go_wp2_with fail
     go_roundw
     case rel=>exact⟨i,by omega,by first|done|go_num,HO2.o,hbox2,by omega,hbw⟩
     case measure=>first|(simp[intOf];done)|(simp[intOf];omega)
  ·have hj00:j=0:=by omega
   subst hj00
   have hO:=HO.o
   rw[List.drop_zero] at hO
   have HO2:=Hd hO
   clear hO HO
   go_wp2_with fail
   go_ret
   exact⟨w.heap.size+1,rfl,HO2.o.lower (by omega),hbel⟩
theorem ZkO (k:Nat):({ data:=#[97,98,99,100] }:ByteArray).extract k (k+1)=lx k:=rfl
theorem ZdR (zs:List ByteArray) (A:Option Addr) (cz B:Nat) (s:ByteArray) (w:World) (hsu:Zf zs=true) (hw:isW (L s)=true) (hrd:Rds w B A (zs.map Value.string)) (hB:B≤w.heap.size) :
  Calls Tryz.prog 116 #[.agg #[.slice A zs.length cz],.string s] w fun e w'=>e=.returned (okS (paV zs s))∧Below w.heap.size w w':=by
 obtain⟨hz4,hz⟩:=ZE hsu
 have hx4:=Zb hw
 have h1:∀ x∈zs,1≤x.size:=fun x hx=>(hz x hx).1
 have bA:Below w.heap.size w (w.alloc (.cells #[.slice A zs.length cz] 26)):=(Below.refl _ _).alloc nlr _
 have zA:(w.alloc (.cells #[.slice A zs.length cz] 26)).heap.size=w.heap.size+1:=by simp
 have h0:=cell_of_row _ _ 0 _ _ (0,0) (heap_alloc_new w (.cells #[.slice A zs.length cz] 26))
 have hso:=Zz zs A cz B _ (by omega) (by omega) (fun y hy=>by have:=(hz y hy).2.1;unfold maxLen;omega) (hrd.below bA hB)
 rw[hsu,zA] at hso
 have hwd:=fun v=>Zl s _ (by unfold maxLen;omega) hw v
 have hcnt:=fun v r hb=>YV zs A zs.length cz B s v rfl hsu hx4 r hb
 have hpok:Zhe zs s=true:=by rw[Zhe,hsu,hw];rfl
 have hpv:paV zs s=if 0<wyN zs (L s) then some (Zd (paL zs (L s))) else none:=by rw[paV,if_pos hpok]
 have hte:=fun (x:ByteArray) (i:Nat) v=>Zjk s x i v
 have hlen:=Zj s
 obtain⟨l,hll⟩:∃ l,L s=l:=⟨_,rfl⟩
 rw[hll] at hcnt hpv hte hlen
 obtain⟨V,hV⟩:∃ V,paV zs s=V:=⟨_,rfl⟩
 rw[hV] at hpv ⊢
 have HSO:=Hd hso;have HWD:=Hd hwd;have HC:=Hd hcnt;have H0:=Hd h0;have HRD:=Hd hrd;have HPV:=Hd hpv;have HZ:=Hd hz;have HTE:=Hd hte;have HLEN:=Hd hlen;have H1:=Hd h1
 clear hso hwd hcnt h0 hrd hpv hz hsu hw hpok hll hV hte hlen h1
 go_enter Tryz.func116,Tryz.ntmps116
 go_wp2_with (first
  | (go_at_call 26;refine HSO.o.mono ?_;rintro e w1 ⟨rfl,b1⟩;have bw1:Below w.heap.size w w1:=bA.trans (b1.mono (by omega));have k1:=(b1.cell (p:=⟨w.heap.size,0,none⟩) (by show w.heap.size<w.heap.size+1;omega)).trans H0.o)
  | (go_at_call 27;with_reducible refine (HWD.o _).mono ?_;rintro e w2 ⟨rfl,rfl⟩))
 refine (HC.o _ (HRD.o.below bw1 hB) (Nat.le_trans hB bw1.size)).mono ?_
 rintro e w3 ⟨g,rfl,o3,b3⟩
 have hz1:=b1.size
 have k3:=(b3.cell (p:=⟨w.heap.size,0,none⟩) (by show w.heap.size<w1.heap.size;omega)).trans k1
 have bw3:Below w.heap.size w w3:=bw1.trans (b3.mono bw1.size)
 have hcell:∀ q,q≤s.size→w3.cell? ⟨g,q,none⟩=some (.int .i64 (wyN zs (l.drop q):Int)):=fun q hq=>by
  obtain⟨ad2,had,hc⟩:=o3.reads.at_ (Xg (Ze1 zs q l (by have:=HLEN.o;omega)))
  injection had with had
  subst had
  rw[show (⟨g,0,none⟩:Addr).add q=⟨g,q,none⟩ from by unfold Addr.add;split<;>simp_all] at hc
  exact hc
 have HCE:=Hd hcell
 have hc0:=hcell 0 (by omega)
 rw[List.drop_zero] at hc0
 clear hcell o3 b3 k1 b1 HC HSO HWD
 by_cases hpos:0<wyN zs l
 ·have hne:((wyN zs l:Int)==0)=false:=by rw[beq_eq_false_iff_ne];omega
  have hV:V=some (Zd (paL zs l)):=by rw[HPV.o,if_pos hpos]
  have HV:=Hd hV;have HPOS:=Hd hpos
  clear hV hpos
  obtain⟨c0,hcc⟩:∃ c:Int,(wyN zs l:Int)=c:=⟨_,rfl⟩
  rw[hcc] at hc0 hne
  clear hcc
  go_wp2_with fail
  go_loopw [7,8,9,10] (fun o p _ _ wr=>∃ (q:Nat) (u:ByteArray),q≤s.size∧p=.int .i64 q∧o=.string u∧u.size≤q∧L u++paL zs (l.drop q)=paL zs l∧0<wyN zs (l.drop q)∧wr=w3) (fun _ p _ _ _=>s.size - (intOf p).toNat)
  case atStart=>exact⟨0,_,by omega,rfl,rfl,by decide,rfl,HPOS.o,rfl⟩
  case round =>
   obtain⟨q,u,hq,rfl,rfl,hu,hap,hwy,rfl⟩:=hrel
   have HAP:=Hd hap
   clear hap
   by_cases hlt:q<s.size
   ·have hdl:(l.drop q).length=s.size - q:=by rw[List.length_drop,HLEN.o]
    obtain⟨k0,x0,hk0,hpa,hbefore,hstep,hwy2,hx1,hx9⟩:=ZdO H1.o (l:=l.drop q) (by omega) hwy
    have hk4:k0<zs.length:=(List.getElem?_eq_some_iff.1 hk0).1
    rw[hdl] at hx9
    rw[List.drop_drop] at hstep hwy2
    rw[hstep] at HAP
    have hlt2:(q:Int)<(s.size:Int):=by omega
    have HB:=Hd hbefore;have HK:=Hd hk0;have HPA:=Hd hpa;have HW2:=Hd hwy2;have HDL:=Hd hdl
    clear hbefore hk0 hpa hstep hwy2 hwy hdl
    go_wp2_with fail
    go_loopw [7,8,9,10,33] (fun o p _ _ i w5=>∃ k:Nat,k≤k0∧i=.int .i64 k∧o=.string u∧p=.int .i64 q∧w5=wr) (fun _ _ _ _ i _=>zs.length - (intOf i).toNat)
    case atStart=>exact⟨0,by omega,rfl,rfl,rfl,rfl⟩
    case round =>
     obtain⟨k,hk,rfl,rfl,rfl,rfl⟩:=hrel
     obtain⟨y,hy⟩:=Zc (l:=zs) (k:=k) (by omega)
     have hyz:=HZ.o y (List.mem_of_getElem? hy)
     obtain⟨hy1,hy8,_⟩:=hyz
     obtain⟨ad,hA,hcy⟩:=(HRD.o.below bw3 hB).at_ (Zs Value.string hy)
     subst hA
     have hlt3:(k:Int)<(zs.length:Int):=by omega
     have hqs:(q:Int)≤(s.size:Int):=by omega
     have hpf:=HTE.o y q wr
     cases hp:JS y (l.drop q) with
     | false =>
      rw[hp] at hpf
      have hkk:k<k0:=by
       rcases Nat.lt_or_ge k k0 with h|h
       ·exact h
       ·have e:k=k0:=by omega
        rw[e,HK.o] at hy;injection hy with hy;subst hy
        have:=HPA.o;rw[paB,hp] at this;cases this
      have HPF:=Hd hpf
      clear hpf hp hy
      go_wp2_with (go_at_call 189;with_reducible refine HPF.o.mono ?_;rintro e w' ⟨rfl,rfl⟩)
      go_roundw
      case rel=>exact⟨k+1,by omega,by go_num,rfl,rfl,by first|trivial|rfl⟩
      case measure=>simp[intOf];omega
     | true =>
      rw[hp] at hpf
      have hpl:=VA hp
      rw[HDL.o] at hpl
      obtain⟨t,ht⟩:∃ t,q+y.size=t:=⟨_,rfl⟩
      have hct:=HCE.o t (by omega)
      have m1:(q:Int)+(y.size:Int)=(t:Int):=by omega
      have m2:(t:Int)<(s.size:Int)+1:=by omega
      have m3:(0:Int)≤(t:Int):=by omega
      have hpb:paB zs (l.drop q) y=decide (0<wyN zs (l.drop t)):=by rw[paB,hp,Bool.true_and,List.drop_drop,ht]
      have HPF:=Hd hpf
      by_cases hkk:k<k0
      ·have hno:=HB.o k y hkk hy
       rw[hpb,decide_eq_false_iff_not] at hno
       have hz0:wyN zs (l.drop t)=0:=by omega
       rw[hz0] at hct
       have hct2:wr.cell? ⟨g,t,none⟩=some (.int .i64 0):=hct
       clear hpf hp hy hno hpb hz0 hct ht
       go_wp2_with (go_at_call 189;with_reducible refine HPF.o.mono ?_;rintro e w' ⟨rfl,rfl⟩)
       go_roundw
       case rel=>exact⟨k+1,by omega,by go_num,rfl,rfl,by first|trivial|rfl⟩
       case measure=>simp[intOf];omega
      ·have e:k=k0:=by omega
       subst e
       have hxy:y=x0:=by have:=HK.o;rw[hy] at this;injection this
       have hyes:=HPA.o
       rw[← hxy,hpb,decide_eq_true_eq] at hyes
       obtain⟨c,hc⟩:∃ c:Nat,wyN zs (l.drop t)=c:=⟨_,rfl⟩
       rw[hc] at hct hyes
       have hc0:(0:Int)<(c:Int):=by omega
       have hk44:k<4:=by omega
       have hlx:=ZkO k
       have hlz:=Vw hk44
       have hk1:(k:Int)≤(k:Int)+1:=by omega
       have hk5:(k:Int)+1≤4:=by omega
       have hnt:((k:Int)+1).toNat=k+1:=by omega
       have hn9:¬ 9223372036854775807<u.size+(lx k).size:=by omega
       have hap2:L (u++lx k)++paL zs (l.drop t)=paL zs l:=by
        rw[ZfS,ZgX hk44,List.append_assoc,← HAP.o,← ht,← hxy];rfl
       have hw9:=HW2.o
       rw[← hxy,ht] at hw9
       have HA2:=Hd hap2;have HW9:=Hd hw9
       have hus:u.size+(lx k).size≤t:=by omega
       have HLX:=Hd hlx
       clear hpf hp hy hpb hyes hxy hap2 hw9 hc hlz ht
       go_wp2_with (go_at_call 189;with_reducible refine HPF.o.mono ?_;rintro e w' ⟨rfl,rfl⟩)
       go_roundw
       case rel=>exact⟨t,u++lx k,by omega,rfl,rfl,by rw[ByteArray.size_append];exact hus,HA2.o,HW9.o,by first|trivial|rfl⟩
       case measure=>simp[intOf];omega
   ·have hqs:q=s.size:=by omega
    have hd0:l.drop q=[]:=List.drop_eq_nil_of_le (by have:=HLEN.o;omega)
    have hfin:Zd (paL zs l)=u:=by
     apply ZH
     show L _=L u
     rw[Zy,← HAP.o,hd0,Zf6,List.append_nil]
    have hV2:V=some u:=by rw[HV.o,hfin]
    have HV2:=Hd hV2
    clear hd0 hfin hV2
    go_wp2_with fail
    go_ret2
    exact⟨by rw[HV2.o];rfl,bw3⟩
 ·have hz0:wyN zs l=0:=by omega
  have hV:V=none:=by rw[HPV.o,if_neg hpos]
  rw[hz0] at hc0
  have hc1:w3.cell? ⟨g,0,none⟩=some (.int .i64 0):=hc0
  have HV:=Hd hV
  clear hV hpos hz0 hc0
  go_wp2_with fail
  go_ret2
  exact⟨by rw[HV.o];rfl,bw3⟩
theorem Zhf (zs:List ByteArray) (A:Option Addr) (cz B:Nat) (s:ByteArray) (w:World) (hsu:Zf zs=true) (hw:isW (L s)=true) (hrd:Rds w B A (zs.map Value.string)) (hB:B≤w.heap.size) :
  Calls Tryz.prog 176 #[.agg #[.slice A zs.length cz],.string s] w fun e w'=>e=.returned (.bool true)∧Below w.heap.size w w':=by
 obtain⟨hz4,hz⟩:=ZE hsu
 have hx4:=Zb hw
 have bA:Below w.heap.size w (w.alloc (.cells #[.slice A zs.length cz] 26)):=(Below.refl _ _).alloc nlr _
 have zA:(w.alloc (.cells #[.slice A zs.length cz] 26)).heap.size=w.heap.size+1:=by simp
 have hso:=ZB zs A cz B _ (by omega) (by omega) (fun y hy=>by have:=(hz y hy).2.1;unfold maxLen;omega) (hrd.below bA hB)
 rw[hsu,zA] at hso
 have hwd:=fun v=>Zi s _ (by unfold maxLen;omega) hw v
 have HSO:=Hd hso;have HWD:=Hd hwd
 clear hso hwd hz hsu hw hrd
 go_enter Tryz.func176,Tryz.ntmps176
 go_wp2_with (first
  | (go_at_call 78;refine HSO.o.mono ?_;rintro e w1 ⟨rfl,b1⟩)
  | (go_at_call 43;with_reducible refine (HWD.o _).mono ?_;rintro e w2 ⟨rfl,rfl⟩))
 go_ret
 exact⟨rfl,bA.trans (b1.mono (by omega))⟩
theorem ZaD (zs:List ByteArray) (A:Option Addr) (cz B:Nat) (s:ByteArray) (w:World) (hsu:Zf zs=true) (hw:isW (L s)=true) (hrd:Rds w B A (zs.map Value.string)) (hB:B≤w.heap.size) :
  Calls Tryz.prog 177 #[.agg #[.slice A zs.length cz],.string s] w fun e w'=>e=.returned (okS (paV zs s))∧Below w.heap.size w w':=by
 obtain⟨hz4,hz⟩:=ZE hsu
 have hx4:=Zb hw
 have h1:∀ x∈zs,1≤x.size:=fun x hx=>(hz x hx).1
 have bA:Below w.heap.size w (w.alloc (.cells #[.slice A zs.length cz] 26)):=(Below.refl _ _).alloc nlr _
 have zA:(w.alloc (.cells #[.slice A zs.length cz] 26)).heap.size=w.heap.size+1:=by simp
 have h0:=cell_of_row _ _ 0 _ _ (0,0) (heap_alloc_new w (.cells #[.slice A zs.length cz] 26))
 have hcnt:=ZdQ zs A zs.length cz B s _ rfl hsu hx4 (hrd.below bA hB) (by rw[zA];omega)
 rw[zA] at hcnt
 have hpok:Zhe zs s=true:=by rw[Zhe,hsu,hw];rfl
 have hpv:paV zs s=if 0<wyN zs (L s) then some (Zd (paL zs (L s))) else none:=by rw[paV,if_pos hpok]
 have hte:=fun (x:ByteArray) (i:Nat) (hi:i≤s.size)=>(⟨fun h=>Zga hi h,fun h h1=>Zjj hi h h1⟩:(JS x ((L s).drop i)=true→i+x.size≤s.size∧s.extract i (i+x.size)=x)∧(JS x ((L s).drop i)=false→i+x.size≤s.size→s.extract i (i+x.size)≠x))
 have hlen:=Zj s
 obtain⟨l,hll⟩:∃ l,L s=l:=⟨_,rfl⟩
 rw[hll] at hcnt hpv hte hlen
 obtain⟨V,hV⟩:∃ V,paV zs s=V:=⟨_,rfl⟩
 rw[hV] at hpv ⊢
 have HC:=Hd hcnt;have H0:=Hd h0;have HRD:=Hd hrd;have HPV:=Hd hpv;have HZ:=Hd hz;have HTE:=Hd hte;have HLEN:=Hd hlen;have H1:=Hd h1
 clear hcnt h0 hrd hpv hz hsu hw hpok hll hV hte hlen h1
 go_enter Tryz.func177,Tryz.ntmps177
 go_wp2_with fail
 refine HC.o.mono ?_
 rintro e w3 ⟨g,rfl,o3,b3⟩
 have k3:=(b3.cell (p:=⟨w.heap.size,0,none⟩) (by show w.heap.size<w.heap.size+1;omega)).trans H0.o
 have bw3:Below w.heap.size w w3:=bA.trans (b3.mono (by omega))
 have z3:=b3.size
 have hlt3:=o3.lt
 have hcell:∀ q,q≤s.size→w3.cell? ⟨g,q,none⟩=some (.int .i64 (wyN zs (l.drop q):Int)):=fun q hq=>by
  obtain⟨ad2,had,hc⟩:=o3.reads.at_ (Xg (Ze1 zs q l (by have:=HLEN.o;omega)))
  injection had with had
  subst had
  rw[show (⟨g,0,none⟩:Addr).add q=⟨g,q,none⟩ from by unfold Addr.add;split<;>simp_all] at hc
  exact hc
 have hg3:g<w3.heap.size:=(o3.lt g rfl).2
 have HCE:=Hd hcell
 have hc0:=hcell 0 (by omega)
 rw[List.drop_zero] at hc0
 clear hcell o3 b3 HC hlt3
 by_cases hpos:0<wyN zs l
 ·have hne:((wyN zs l:Int)==0)=false:=by rw[beq_eq_false_iff_ne];omega
  have hV:V=some (Zd (paL zs l)):=by rw[HPV.o,if_pos hpos]
  have HV:=Hd hV;have HPOS:=Hd hpos;have K3:=Hd k3
  clear hV hpos
  obtain⟨c0,hcc⟩:∃ c:Int,(wyN zs l:Int)=c:=⟨_,rfl⟩
  rw[hcc] at hc0 hne
  clear hcc
  go_wp2_with fail
  go_loopw [7,8,9,10] (fun o p _ _ wr=>∃ (q m:Nat) (Ab:Option Addr) (cb:Nat) (u:List UInt8),q≤s.size∧m≤q∧p=.int .i64 q∧o=.slice Ab m cb∧u.length=m∧u++paL zs (l.drop q)=paL zs l∧0<wyN zs (l.drop q)∧Own wr w3.heap.size 5 (.slice Ab m cb) (byV u)∧Below w3.heap.size w3 wr) (fun _ p _ _ _=>s.size - (intOf p).toNat)
  case atStart=>exact⟨0,0,_,_,[],by omega,by omega,rfl,rfl,rfl,rfl,HPOS.o,Own.empty nlr,(Below.refl _ _).alloc nlr _⟩
  case round =>
   clear hc0 hne
   obtain⟨q,m,Ab,cb,u,hq,hmq,rfl,rfl,hu,hap,hwy,hown,hbel⟩:=hrel
   have HAP:=Hd hap;have HO:=Hd hown;have HU:=Hd hu
   have hbx:=(hbel.cell (p:=⟨w.heap.size,0,none⟩) (by show w.heap.size<w3.heap.size;omega)).trans K3.out
   have hbw:Below w.heap.size w wr:=bw3.trans (hbel.mono (by omega))
   clear hap hown hu k3
   by_cases hlt:q<s.size
   ·have hdl:(l.drop q).length=s.size - q:=by rw[List.length_drop,HLEN.o]
    obtain⟨k0,x0,hk0,hpa,hbefore,hstep,hwy2,hx1,hx9⟩:=ZdO H1.o (l:=l.drop q) (by omega) hwy
    have hk4:k0<zs.length:=(List.getElem?_eq_some_iff.1 hk0).1
    rw[hdl] at hx9
    rw[List.drop_drop] at hstep hwy2
    rw[hstep] at HAP
    have hlt2:(q:Int)<(s.size:Int):=by omega
    have HB:=Hd hbefore;have HK:=Hd hk0;have HPA:=Hd hpa;have HW2:=Hd hwy2;have HDL:=Hd hdl
    clear hbefore hk0 hpa hstep hwy2 hwy hdl
    go_wp2_with fail
    obtain⟨wo,hwo⟩:∃ x,x=wr:=⟨_,rfl⟩
    subst hwo
    go_loopw [7,8,9,10,26] (fun o p _ _ i w5=>∃ k:Nat,k≤k0∧i=.int .i64 k∧o=.slice Ab m cb∧p=.int .i64 q∧w5=wo) (fun _ _ _ _ i _=>zs.length - (intOf i).toNat)
    case atStart=>exact⟨0,by omega,rfl,rfl,rfl,rfl⟩
    case round =>
     obtain⟨k,hk,rfl,rfl,rfl,rfl⟩:=hrel
     obtain⟨y,hy⟩:=Zc (l:=zs) (k:=k) (by omega)
     have hyz:=HZ.o y (List.mem_of_getElem? hy)
     obtain⟨hy1,hy8,_⟩:=hyz
     obtain⟨ad,hA,hcy⟩:=(HRD.o.below hbw hB).at_ (Zs Value.string hy)
     subst hA
     have hlt3:(k:Int)<(zs.length:Int):=by omega
     have hqs:(q:Int)≤(s.size:Int):=by omega
     have hte2:=HTE.o y q (by omega)
     obtain⟨t,ht⟩:∃ t,q+y.size=t:=⟨_,rfl⟩
     have m1:(q:Int)+(y.size:Int)=(t:Int):=by omega
     have m3:(0:Int)≤(t:Int):=by omega
     have m4:(q:Int)≤(t:Int):=by omega
     rw[ht] at hte2
     cases hp:JS y (l.drop q) with
     | false =>
      rw[hp] at hte2
      have hkk:k<k0:=by
       rcases Nat.lt_or_ge k k0 with h|h
       ·exact h
       ·have e:k=k0:=by omega
        rw[e,HK.o] at hy;injection hy with hy;subst hy
        have:=HPA.o;rw[paB,hp] at this;cases this
      by_cases hle:t≤s.size
      ·have hc2:((s.extract q t).toList==y.toList)=false:=Zr (hte2.2 rfl hle)
       have hc1:(t:Int)≤(s.size:Int):=by omega
       clear hp hy hte2 ht
       go_wp2_with fail
       go_roundw
       case rel=>exact⟨k+1,by omega,by go_num,rfl,rfl,by first|trivial|rfl⟩
       case measure=>simp[intOf];omega
      ·have hc1:decide ((t:Int)≤(s.size:Int))=false:=decide_eq_false (by omega)
       clear hp hy hte2 ht
       go_wp2_with fail
       go_roundw
       case rel=>exact⟨k+1,by omega,by go_num,rfl,rfl,by first|trivial|rfl⟩
       case measure=>simp[intOf];omega
     | true =>
      have hyy:=hte2.1 hp
      have hc1:(t:Int)≤(s.size:Int):=by omega
      have hc2:((s.extract q t).toList==y.toList)=true:=(Jp _ _).trans (decide_eq_true hyy.2)
      have hct:=HCE.o t (by omega)
      have m2:(t:Int)<(s.size:Int)+1:=by omega
      have hpb:paB zs (l.drop q) y=decide (0<wyN zs (l.drop t)):=by rw[paB,hp,Bool.true_and,List.drop_drop,ht]
      by_cases hkk:k<k0
      ·have hno:=HB.o k y hkk hy
       rw[hpb,decide_eq_false_iff_not] at hno
       have hz0:wyN zs (l.drop t)=0:=by omega
       rw[hz0] at hct
       have hct2:wr.cell? ⟨g,t,none⟩=some (.int .i64 0):=(hbel.cell (p:=⟨g,t,none⟩) hg3).trans hct
       clear hp hy hno hpb hz0 hct ht hte2 hyy
       go_wp2_with fail
       go_roundw
       case rel=>exact⟨k+1,by omega,by go_num,rfl,rfl,by first|trivial|rfl⟩
       case measure=>simp[intOf];omega
      ·have e:k=k0:=by omega
       subst e
       have hxy:y=x0:=by have:=HK.o;rw[hy] at this;injection this
       have hyes:=HPA.o
       rw[← hxy,hpb,decide_eq_true_eq] at hyes
       obtain⟨c,hc⟩:∃ c:Nat,wyN zs (l.drop t)=c:=⟨_,rfl⟩
       rw[hc] at hct hyes
       have hct2:wr.cell? ⟨g,t,none⟩=some (.int .i64 (c:Int)):=(hbel.cell (p:=⟨g,t,none⟩) hg3).trans hct
       have hc0:(0:Int)<(c:Int):=by omega
       have hk44:k<4:=by omega
       obtain⟨b,hb⟩:∃ b,UInt8.ofNat (97+k)=b:=⟨_,rfl⟩
       have hbn:(b.toNat:Int)=97+(k:Int):=by rw[← hb,UInt8.toNat_ofNat'];omega
       have hbw8:IntKind.u8.wrap (97+(k:Int))=97+(k:Int):=IntWalk.u8_in _ (by omega)
       have hap2:(u++[b])++paL zs (l.drop t)=paL zs l:=by
        rw[List.append_assoc,← HAP.o,← ht,← hxy,hb];rfl
       have hw9:=HW2.o
       rw[← hxy,ht] at hw9
       have HA2:=Hd hap2;have HW9:=Hd hw9;have HBN:=Hd hbn
       have hlen:(byV u).length=m:=by rw[Zm];exact HU.o
       have HLE:=Hd hlen
       have hm9:m<4294967296:=by omega
       have hsl:=hbel.size
       clear hp hy hpb hyes hxy hap2 hw9 hc ht hct hte2 hyy hb hbn hlen
       go_wp2_with (at_builtin;refine Zp rfl (.tmp 59) (.tmp 63) 22 rfl _ 1 Tryz.underlying22 ZQ rfl rfl HO.o _ rfl rfl m HLE.o hm9 (by decide) hsl ?_)
       intro A2 c2 w6 hown2 hbel2 hsz2
       have hX:byV u++[Value.int .u8 (97+(k:Int))]=byV (u++[b]):=by rw[← HBN.o,ZP]
       first|rw[hX] at hown2|(rw[hbw8,hX] at hown2)
       have HO2:=Hd hown2;clear hown2 hX
       go_wp2_with fail
       go_roundw
       case rel=>exact⟨t,m+1,A2,c2,u++[b],by omega,by omega,rfl,rfl,by rw[List.length_append,HU.o];rfl,HA2.o,HW9.o,HO2.o,hbel.trans hbel2⟩
       case measure=>simp[intOf];omega
   ·have hqs:q=s.size:=by omega
    have hd0:l.drop q=[]:=List.drop_eq_nil_of_le (by have:=HLEN.o;omega)
    have hfin:paL zs l=u:=by rw[← HAP.o,hd0,Zf6,List.append_nil]
    have hV2:V=some (Zd u):=by rw[HV.o,hfin]
    have hcv:=HO.o.reads.conv (P:=Tryz.prog) HU.o 22 9 5 cb Tryz.underlying22 Tryz.underlying5 Tryz.underlying9
    have HV2:=Hd hV2
    clear hd0 hfin hV2
    go_wp2_with fail
    go_ret2
    exact⟨by rw[HV2.o];rfl,hbw⟩
 ·have hz0:wyN zs l=0:=by omega
  have hV:V=none:=by rw[HPV.o,if_neg hpos]
  rw[hz0] at hc0
  have hc1:w3.cell? ⟨g,0,none⟩=some (.int .i64 0):=hc0
  have HV:=Hd hV
  clear hV hpos hz0 hc0
  go_wp2_with fail
  go_ret2
  exact⟨by rw[HV.o];rfl,bw3⟩
theorem ZdS (zs:List ByteArray) (A:Option Addr) (cz B:Nat) (s:ByteArray) (w:World) (hsu:Zf zs=true) (hw:isW (L s)=true) (hrd:Rds w B A (zs.map Value.string)) (hB:B≤w.heap.size) :
  Calls Tryz.prog 95 #[.agg #[.slice A zs.length cz],.string s] w fun e w'=>e=.returned (okS (paV zs s))∧Below w.heap.size w w':=by
 have bA:Below w.heap.size w (w.alloc (.cells #[.slice A zs.length cz] 26)):=(Below.refl _ _).alloc nlr _
 have zA:(w.alloc (.cells #[.slice A zs.length cz] 26)).heap.size=w.heap.size+1:=by simp
 have h0:=cell_of_row _ _ 0 _ _ (0,0) (heap_alloc_new w (.cells #[.slice A zs.length cz] 26))
 have hok:=Zhf zs A cz B s _ hsu hw (hrd.below bA hB) (by rw[zA];omega)
 rw[zA] at hok
 have hpa:=fun v r hb=>ZaD zs A cz B s v hsu hw r hb
 obtain⟨o,ho⟩:∃ o,paV zs s=o:=⟨_,rfl⟩
 rw[ho] at hpa ⊢
 have HOK:=Hd hok;have HPA:=Hd hpa;have HRD:=Hd hrd;have H0:=Hd h0
 clear hok hpa hrd h0 hsu hw ho
 unfold okS at HPA ⊢
 go_enter Tryz.func95,Tryz.ntmps95
 go_wp2_with fail
 refine HOK.o.mono ?_
 rintro e w1 ⟨rfl,b1⟩
 have bw1:Below w.heap.size w w1:=bA.trans (b1.mono (by omega))
 have k1:=(b1.cell (p:=⟨w.heap.size,0,none⟩) (by show w.heap.size<w.heap.size+1;omega)).trans H0.o
 go_wp2_with fail
 refine (HPA.o _ (HRD.o.below bw1 hB) (Nat.le_trans hB bw1.size)).mono ?_
 rintro e w2 ⟨rfl,b2⟩
 go_wp2_with fail
 go_ret2
 exact⟨rfl,bw1.trans (b2.mono bw1.size)⟩
end Go.Proofs.YtocbgldilgemoaaGreatDoor
