/- A session is its lines (plain). No condition. -/
import Derived.Test.YtocbgldilgemoaaGreatDoorM30
import Derived.Test.YtocbgldilgemoaaGreatDoorNbn
import Derived.Test.YtocbgldilgemoaaGreatDoorRps
namespace Go.Proofs.YtocbgldilgemoaaGreatDoor
open Go.RowKit
set_option linter.unusedVariables false
noncomputable section
def cmB (l:ByteArray):Bool:=decide (l.size=0)||decide ((L l).headD 0=35)
def rsL:List ByteArray→Nat→List ByteArray→ByteArray→ByteArray→ByteArray × Nat
 | [],n,_,_,out=>(out,n)
 | l :: ls,n,zs,v,out =>
  if n=40 then (out,n) else
  if cmB l=true then rsL ls (n+1) zs v out else
  rsL ls (n+1) (RL zs v l).1 (RL zs v l).2.1 (out++((RL zs v l).2.2++{ data:=#[10] }))
def RS (text:ByteArray):ByteArray × Nat:=rsL (ZD 10 text) 0 Vi { data:=#[97] } { data:=#[] }
theorem XR (n:Nat) (zs:List ByteArray) (v out:ByteArray):rsL [] n zs v out=(out,n):=rfl
theorem Zfb (ls:List ByteArray) (zs:List ByteArray) (v out:ByteArray):rsL ls 40 zs v out=(out,40):=by
 cases ls with
 | nil=>rfl
 | cons l ls=>rw[rsL,if_pos rfl]
theorem YC {l:ByteArray} {n:Nat} (ls zs:List ByteArray) (v out:ByteArray) (hn:n≠40) (h:cmB l=true):rsL (l :: ls) n zs v out=rsL ls (n+1) zs v out:=by
 rw[rsL,if_neg hn,if_pos h]
theorem Zfc {l:ByteArray} {n:Nat} (ls zs:List ByteArray) (v out:ByteArray) (hn:n≠40) (h:cmB l=false):rsL (l :: ls) n zs v out=rsL ls (n+1) (RL zs v l).1 (RL zs v l).2.1 (out++((RL zs v l).2.2++{ data:=#[10] })):=by
 rw[rsL,if_neg hn,if_neg (by rw[h];decide)]
theorem Zfd:Zf Vi=true:=by decide
theorem ZlT:isW (L ({ data:=#[97] }:ByteArray))=true:=by decide
theorem ZjW:∀ (ls:List ByteArray) (n:Nat) (zs:List ByteArray) (v out:ByteArray),(∀ l∈ls,cmB l=true)→n≤40→rsL ls n zs v out=(out,min 40 (n+ls.length))
 | [],n,zs,v,out,_,hn=>by rw[XR,List.length_nil];congr 1;omega
 | l :: ls,n,zs,v,out,h,hn=>by
  by_cases h4:n=40
  ·subst h4;rw[Zfb];congr 1;omega
  ·rw[YC ls zs v out h4 (h l List.mem_cons_self),ZjW ls (n+1) zs v out (fun x hx=>h x (List.mem_cons_of_mem _ hx)) (by omega),List.length_cons]
   congr 1;omega
theorem Zgr (c:UInt8) (l:List ByteArray) (h0:l≠[]) (h:∀ x∈l,c ∉ L x):ZD c (Zd (jnS c l))=l:=by
 rw[ZD,Zy,ZjV c l h0 h,List.map_map]
 exact List.map_id'' (fun x=>Ql x) _
def Ju:Nat→ByteArray
 | 0=>{ data:=#[] }
 | k+1=>Ju k++{ data:=#[35,32,120,10] }
theorem VV:∀ k,(Ju k).size=4 * k
 | 0=>rfl
 | k+1=>by rw[Ju,ByteArray.size_append,VV k];show _+4=_;omega
theorem ZjX:∀ k,L (Ju k)=(List.replicate k ([35,32,120,10]:List UInt8)).flatten
 | 0=>rfl
 | k+1=>by
  have h1:L (Ju (k+1))=L (Ju k)++[35,32,120,10]:=by simp[Ju,L,ByteArray.data_append]
  rw[h1,ZjX k,List.replicate_succ',List.flatten_append];rfl
theorem ZjY:Qx 10 [] (L (Ju 45))=List.replicate 45 [35,32,120]++[[]]:=by
 rw[ZjX];decide +kernel
theorem Zk2:RS (Ju 45)=({ data:=#[] },40):=by
 rw[RS,ZD,ZjY]
 rw[ZjW _ 0 _ _ _ ?_ (by omega)]
 ·rw[List.length_map,List.length_append,List.length_replicate];rfl
 ·intro l hl
  rw[List.map_append,List.mem_append,List.map_replicate] at hl
  rcases hl with h|h
  ·rw[(List.mem_replicate.1 h).2];decide
  ·rw[List.map_cons,List.map_nil,List.mem_singleton] at h;rw[h];decide
theorem Zk3 (zs:List ByteArray) (v:ByteArray):RL zs v { data:=#[115,104,111,119] }=(zs,v,orD v):=by
 rw[RL,show ZD 32 ({ data:=#[115,104,111,119] }:ByteArray)=[{ data:=#[115,104,111,119] }] from by decide +kernel]
 show rl1 zs v _=_
 unfold rl1
 rw[if_neg (by decide),if_neg (by decide),if_neg (by decide),if_neg (by decide),if_neg (by decide),if_pos rfl]
theorem Zk4 (zs:List ByteArray) (v:ByteArray):RL zs v { data:=#[103,114,111,119,32,45,49] }=(zs,v,ZY):=by
 rw[RL,show ZD 32 ({ data:=#[103,114,111,119,32,45,49] }:ByteArray)=[{ data:=#[103,114,111,119] },{ data:=#[45,49] }] from by decide +kernel]
 have h2:rl2 zs v { data:=#[103,114,111,119] } { data:=#[45,49] }=none:=by
  unfold rl2
  rw[if_neg (by decide),if_neg (by decide),if_neg (by decide),if_neg (by decide),if_neg (by decide)]
 have hi:iP { data:=#[45,49] }=some (-1):=(Zcd _ _).2 ⟨by unfold I64;omega,by decide +kernel⟩
 have hit:itV zs v (-1)=none:=by
  unfold itV
  rw[if_neg]
  rw[Vk,show decide ((0:Int)≤-1∧(-1:Int)≤20)=false from by decide,Bool.and_false,Bool.and_false]
  decide
 show (match rl2 zs v { data:=#[103,114,111,119] } { data:=#[45,49] } with|some r=>r|none=>rl3 zs v { data:=#[103,114,111,119] } [{ data:=#[45,49] }])=_
 rw[h2]
 show rl3 _ _ _ _=_
 unfold rl3 Zt
 rw[hi]
 show rlN zs v _ [-1]=_
 unfold rlN
 show (if _ then _ else _)=_
 rw[if_pos rfl,hit];rfl
theorem WV {zs:List ByteArray} (h:Zf zs=true):∀ c∈L (fsV zs),c=44∨(97≤c.toNat∧c.toNat≤100):=by
 rw[fsV,if_pos h,Zy]
 have hs:=h
 rw[Zf,Bool.and_eq_true,List.all_eq_true] at hs
 have hw:∀ x∈zs,∀ c∈L x,97≤c.toNat∧c.toNat≤100:=fun x hx c hc=>by
  have hx2:=hs.1 x hx
  rw[Qa,Bool.and_eq_true,Bool.and_eq_true] at hx2
  obtain⟨k,hk⟩:=List.mem_iff_getElem?.1 hc
  exact Q7 hx2.2.1 hk
 clear h hs
 have hj:∀ zs:List ByteArray,(∀ x∈zs,∀ c∈L x,97≤c.toNat∧c.toNat≤100)→∀ c∈jnS 44 zs,c=44∨(97≤c.toNat∧c.toNat≤100):=by
  intro zs
  induction zs with
  | nil=>intro _ c hc;simp[jnS,Lib.join,List.intercalate] at hc
  | cons x r ih =>
   intro hx c hc
   cases r with
   | nil =>
    have:jnS 44 [x]=L x:=by simp[jnS,Lib.join,List.intercalate]
    rw[this] at hc
    exact .inr (hx x List.mem_cons_self c hc)
   | cons y r =>
    have:jnS 44 (x :: y :: r)=L x++44 :: jnS 44 (y :: r):=by simp[jnS,Lib.join,List.intercalate]
    rw[this,List.mem_append,List.mem_cons] at hc
    rcases hc with hc|hc|hc
    ·exact .inr (hx x List.mem_cons_self c hc)
    ·exact .inl hc
    ·exact ih (fun z hz=>hx z (List.mem_cons_of_mem _ hz)) c hc
 exact hj zs hw
theorem Zl5 {zs:List ByteArray} (h:Zf zs=true):nmT (fsV zs)={ data:=#[] }:=by
 have hc:=WV h
 have hn:∀ (t:ByteArray) (c:UInt8),c∈L t→¬ (c=44∨(97≤c.toNat∧c.toNat≤100))→fsV zs≠t:=fun t c h1 h2 e=>h2 (hc c (by rw[e];exact h1))
 unfold nmT
 rw[if_neg (hn _ 105 (by decide) (by decide)),if_neg (hn _ 116 (by decide) (by decide)),if_neg (hn _ 111 (by decide) (by decide)),if_neg (hn _ 116 (by decide) (by decide)),if_neg (hn _ 115 (by decide) (by decide)),if_neg (hn _ 115 (by decide) (by decide)),if_neg (hn _ 114 (by decide) (by decide))]
theorem Zl6 {zs:List ByteArray} (h:Zf zs=true):psV (fsV zs)=some zs:=by
 have hs:=h
 rw[Zf,Bool.and_eq_true,List.all_eq_true,decide_eq_true_eq] at hs
 have h2:ZD 44 (fsV zs)=zs:=by
  rw[fsV,if_pos h]
  refine Zgr 44 zs (fun e=>by rw[e] at hs;simp at hs) fun x hx hm=>?_
  have hx2:=hs.1 x hx
  rw[Qa,Bool.and_eq_true,Bool.and_eq_true] at hx2
  obtain⟨k,hk⟩:=List.mem_iff_getElem?.1 hm
  exact absurd (Q7 hx2.2.1 hk).1 (by decide)
 rw[psV,h2,if_pos h]
theorem Zl7 {zs:List ByteArray} (h:Zf zs=true):suT (fsV zs)=some zs:=by
 have hv:psV ({ data:=#[] }:ByteArray)=none:=WP (by rw[show ZD 44 { data:=#[] }=[Zd []] from rfl];decide)
 rw[suT,Zl5 h,hv,if_neg (by decide),Zl6 h]
theorem ZjZ {zs:List ByteArray} (v:ByteArray) (h:Zf zs=true):RL zs v ({ data:=#[115,117,98,115,116,32] }++fsV zs)=(zs,v,slV zs):=by
 have hc:=WV h
 have h32:(32:UInt8) ∉ L (fsV zs):=fun hm=>absurd (hc 32 hm) (by decide)
 have hsp:ZD 32 ({ data:=#[115,117,98,115,116,32] }++fsV zs)=[{ data:=#[115,117,98,115,116] },fsV zs]:=by
  have h1:L ({ data:=#[115,117,98,115,116,32] }++fsV zs)=[115,117,98,115,116]++32 :: L (fsV zs):=by simp[L,ByteArray.data_append]
  rw[ZD,h1,Y2 32 _ _ _ (by decide),Zcm 32 _ _ h32,List.map_cons,List.map_cons,List.map_nil,List.nil_append,List.nil_append,Ql]
  rfl
 rw[RL,hsp]
 have h2:rl2 zs v { data:=#[115,117,98,115,116] } (fsV zs)=some (Jl zs v (suT (fsV zs))):=by
  unfold rl2;rw[if_pos rfl]
 show (match rl2 zs v { data:=#[115,117,98,115,116] } (fsV zs) with|some r=>r|none=>rl3 zs v { data:=#[115,117,98,115,116] } [fsV zs])=_
 rw[h2,Zl7 h]
 rfl
end
end Go.Proofs.YtocbgldilgemoaaGreatDoor
