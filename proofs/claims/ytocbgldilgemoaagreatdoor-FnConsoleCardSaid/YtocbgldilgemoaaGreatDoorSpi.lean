/- The program's SplitAny at one separator. Asks the shelf's text. No condition but the bounds. -/
import Derived.Test.YtocbgldilgemoaaGreatDoorM4
namespace Go.Proofs.YtocbgldilgemoaaGreatDoor
open Go.RowKit
set_option linter.unusedVariables false
theorem ZlU (c:UInt8) (b:ByteArray) (d:UInt8) (hb:b=⟨#[c]⟩) (h:d=c):Lib.indexByte b.data.toList ((d.toNat:Int).toNat.toUInt8)=0:=by
 subst hb;subst h
 simp[Lib.indexByte]
theorem Zk7 (c:UInt8) (b:ByteArray) (d:UInt8) (hb:b=⟨#[c]⟩) (h:¬ d=c):Lib.indexByte b.data.toList ((d.toNat:Int).toNat.toUInt8)=-1:=by
 subst hb
 have h2:¬ c=d:=fun e=>h e.symm
 simp[Lib.indexByte,h2]
set_option maxRecDepth 4000 in
set_option maxHeartbeats 1000000 in
theorem ZaI (s:ByteArray) (c:UInt8) (hs:s.size≤1048576) (w:World) :
  Calls Tryz.prog 29 #[.string s,.string ⟨#[c]⟩] w fun e w'=>∃ g c',e=.returned (.slice (some ⟨g,0,none⟩) (ZD c s).length c')∧Own w' w.heap.size 9 (.slice (some ⟨g,0,none⟩) (ZD c s).length c') ((ZD c s).map Value.string)∧Below w.heap.size w w':=by
 have hle:=Qf c s
 have hst:=W2 c s
 have hend:=Zea c s
 obtain⟨R,hR⟩:∃ R,ZD c s=R:=⟨_,rfl⟩
 obtain⟨by1,hby⟩:∃ b:ByteArray,(⟨#[c]⟩:ByteArray)=b:=⟨_,rfl⟩
 rw[hR] at hle hst ⊢
 rw[hby]
 have HST:=Hd hst;have HBY:=Hd hby;have HEN:=Hd hend
 have HIB:=Hd (fun (d:UInt8) w'=>Tryz.strings_IndexByte by1 (d.toNat:Int) w')
 clear hR hby hst hend
 go_enter Tryz.func29,Tryz.ntmps29
 go_wp2_with fail
 go_loopw [5,6,7,11] (fun v f _ i wr=>∃ (k fr g m ca:Nat) (ps:List ByteArray),k≤s.size∧fr≤k∧i=.int .i64 k∧f=.int .i64 fr∧v=.slice (some ⟨g,0,none⟩) m ca∧ps.length=m∧VW c s ps fr k=R∧Own wr w.heap.size 9 (.slice (some ⟨g,0,none⟩) m ca) (ps.map Value.string)∧Below w.heap.size w wr) (fun _ _ _ i _=>s.size - (intOf i).toNat)
 case atStart=>exact⟨0,0,w.heap.size,0,0,[],by omega,by omega,rfl,rfl,rfl,rfl,HST.o,Own.empty nlr,(Below.refl _ _).alloc nlr _⟩
 case round =>
  obtain⟨k,fr,g,m,ca,ps,hk,hfr,rfl,rfl,rfl,hm,ht,hown,hbel⟩:=hrel
  have hml:=Zeb ht
  rw[hm] at hml
  have HM:=Hd hm;have HT:=Hd ht;have HO:=Hd hown
  have hz:=hbel.size
  have hm9:m<4294967296:=by omega
  have hl5:(ps.map Value.string).length=m:=by rw[List.length_map];exact hm
  have HL5:=Hd hl5
  clear hm ht hown hl5
  by_cases hlt:k<s.size
  ·have hlt2:(k:Int)<(s.size:Int):=by omega
   have hfr2:(fr:Int)≤(k:Int):=by omega
   have hk2:(k:Int)≤(s.size:Int):=by omega
   obtain⟨wo,hwo⟩:∃ x,x=wr:=⟨_,rfl⟩
   subst hwo
   by_cases hc:s[k]=c
   ·have hib:=ZlU c by1 s[k] HBY.o.symm hc
    have hcl:=HIB.o s[k] wo
    rw[hib] at hcl
    have HCL:=Hd hcl
    have hn:=Zd9 (ps:=ps) (fr:=fr) hlt hc
    rw[HT.o] at hn
    have HN:=Hd hn
    clear hn hc hib hcl
    go_wp2_with (first|(go_at_call 70;refine HCL.o.mono ?_;rintro e w3 ⟨rfl,rfl⟩)|(at_builtin;refine Zx rfl (.tmp 20) (.tmp 25) 23 rfl _ 16 Tryz.underlying23 Zn rfl m ca rfl HO.o _ rfl rfl HL5.o hm9 (by decide) hz ?_))
    intro g4 c4 w4 ha4
    have hown4:=ha4.own
    rw[show ps.map Value.string++[Value.string (s.extract fr k)]=(ps++[s.extract fr k]).map Value.string from by rw[List.map_append];rfl] at hown4
    have hbel4:Below w.heap.size w w4:=hbel.trans ha4.bel
    have HO4:=Hd hown4
    clear ha4 hown4
    go_wp2_with fail
    go_roundw
    case rel=>exact⟨k+1,k+1,g4,m+1,c4,ps++[s.extract fr k],by omega,by omega,by go_num,by go_num,rfl,by rw[List.length_append,HM.o];rfl,HN.o.symm,HO4.o,hbel4⟩
    case measure=>simp[intOf];omega
   ·have hib:=Zk7 c by1 s[k] HBY.o.symm hc
    have hcl:=HIB.o s[k] wo
    rw[hib] at hcl
    have HCL:=Hd hcl
    have hn:=Za3 (ps:=ps) (fr:=fr) hlt hfr hc
    rw[HT.o] at hn
    have HN:=Hd hn
    clear hn hc hib hcl
    go_wp2_with (go_at_call 70;refine HCL.o.mono ?_;rintro e w3 ⟨rfl,rfl⟩)
    go_roundw
    case rel=>exact⟨k+1,fr,g,m,ca,ps,by omega,by omega,by go_num,rfl,rfl,HM.o,HN.o.symm,HO.o,hbel⟩
    case measure=>simp[intOf];omega
  ·have hk9:k=s.size:=by omega
   subst hk9
   have hfr2:(fr:Int)≤(s.size:Int):=by omega
   have hn:=HEN.o ps fr
   rw[HT.o] at hn
   have HN:=Hd hn
   clear hn
   go_wp2_with (at_builtin;refine Zx rfl (.tmp 30) (.tmp 34) 23 rfl _ 16 Tryz.underlying23 Zn rfl m ca rfl HO.o _ rfl rfl HL5.o hm9 (by decide) hz ?_)
   intro g4 c4 w4 ha4
   have hown4:=ha4.own
   rw[show ps.map Value.string++[Value.string (s.extract fr s.size)]=(ps++[s.extract fr s.size]).map Value.string from by rw[List.map_append];rfl] at hown4
   have hbel4:Below w.heap.size w w4:=hbel.trans ha4.bel
   have HO4:=Hd hown4
   clear ha4 hown4
   go_wp2_with fail
   go_ret
   have hl:R.length=m+1:=by rw[HN.o,List.length_append,HM.o];rfl
   rw[hl,HN.o]
   exact⟨g4,c4,rfl,HO4.o,hbel4⟩
end Go.Proofs.YtocbgldilgemoaaGreatDoor
