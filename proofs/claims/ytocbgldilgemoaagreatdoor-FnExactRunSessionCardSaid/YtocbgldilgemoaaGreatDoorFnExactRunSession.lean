/- For every string the law FnExactRunSession returns true; no condition; the listed variables are the library's own, tied. -/
import Derived.Test.YtocbgldilgemoaaGreatDoorRsr
import Derived.Test.YtocbgldilgemoaaGreatDoorTie
import Derived.Test.YtocbgldilgemoaaGreatDoorCards
import Derived.Lay
import Derived.LaidMore
namespace Go.Proofs.YtocbgldilgemoaaGreatDoor.fnExactRunSession
set_option maxHeartbeats 4000000
set_option maxRecDepth 100000
open Go.ChangeShapes Go.WideShapes Go.ChangeAt Go.RowKit
open Go.ChangeMaps (open_string shut_string)
set_option linter.unusedVariables false
theorem walk (s:ByteArray) (w:World) (hs:s.size≤maxLen) (hsh:w.ShapedOpen Tryz.prog) (hL:laidMet Tryz.prog Rows.fnExactRunSessionRow.laid w) :
  Calls Tryz.prog 4 #[.string s] w fun e w'=>e=.returned (.bool true)∧Below w.heap.size w w':=by
 have m0:=Hd (MlS.of hsh)
 clear hsh
 have t0:=Hd (TB.of_head hL.tail.tail)
 have r0:=Hd (EG.of hL.tail.tail.tail.tail)
 have x0:=Hd (ES.of hL.tail.tail.tail.tail.tail)
 clear hL
 by_cases h1:1048576<s.size
 ·go_enter Tryz.func4,Tryz.ntmps4
  go_wp2_with fail
  go_ret
  exact⟨rfl,Below.refl _ _⟩
 have hp:=fun w'=>XC s (by omega) w'
 have hi:=fun w' a b c d=>Jh s (by omega) w' a b c d
 obtain⟨V,hV⟩:∃ V,RS s=V:=⟨_,rfl⟩
 simp only[hV] at hi hp
 obtain⟨t,k⟩:=V
 have HI:=Hd hi;have HP:=Hd hp
 clear hi hp hV
 go_enter Tryz.func4,Tryz.ntmps4
 go_wp2_with fail
 refine (HP.o _).mono ?_
 rintro e w1 ⟨rfl,b0⟩
 have m1:=Hd (m0.out.below b0);have t1:=Hd (t0.out.below b0);have r1:=Hd (r0.out.below b0);have x1:=Hd (x0.out.below b0)
 go_wp2_with fail
 refine (HI.o _ t1.out m1.out x1.out r1.out).mono ?_
 rintro e w2 ⟨rfl,b1⟩
 go_wp2_with fail
 go_ret
 exact⟨rfl,b0.trans (b1.mono b0.size)⟩
theorem lifted (os:Os) (started:os.Started) (H:Type) (enc:TypeId × Value→H) :
  ReturnsInHanded {} Tryz.checked os 4 .any (fun w args=>(Rows.fnExactRunSessionSpec.pre enc Tryz.prog Tryz.f4 [] false w args∧laidMetH Tryz.prog Rows.fnExactRunSessionRow.laid w)∧sizedMet enc Tryz.prog Tryz.f4 (OpenSpec.ofChange Rows.fnExactRunSessionSpec) false w args) (Rows.fnExactRunSessionSpec.post enc Tryz.prog Tryz.f4 false true false false):=by
 refine QR (C:=Tryz.checked) (X:=fun w _=>laidMetH Tryz.prog Rows.fnExactRunSessionRow.laid w) (fun _ _ _ hh h=>h.of_heap hh) own started (by kernel_rfl) Tryz.func4
  (ChangeSpec.witness_shaped (enc:=enc) (C:=Tryz.checked) (os:=os) (X:=fun w _=>laidMetH Tryz.prog Rows.fnExactRunSessionRow.laid w) false (World.laidAll Tryz.prog os Rows.fnExactRunSessionRow.laid) #[.string ByteArray.empty] 8 (World.laidAll_os _ _ _)
   (World.shaped_of_ZipB (by kernel_rfl) (by kernel_rfl)) (by kernel_rfl) (by kernel_rfl) (by kernel_rfl)
   (by rw[MakeChecks.laidMetH_plain _ _ _ (by kernel_rfl)];exact laidMet_laidAll _ (by kernel_rfl) (by kernel_rfl))) ?_
 intro W base args ds gs before hval0 hW hL hsh
 rw[MakeChecks.laidMetH_plain _ _ _ (by kernel_rfl)] at hL
 have hval:∀ (j:Nat) t v,Tryz.f4.params[j]? = some t→args[j]? = some v→Value.okWide Tryz.prog W .any base t v:=hval0
 have hW':=hW
 obtain⟨p,q,hA0,hV,rfl,hfz,hnd⟩:=hW
 have hA:DataW.TrodAll enc Tryz.prog W 0 (fun _=>true) true Tryz.f4.params.toList args.toList ds p:=hA0
 rw[Tryz.params4] at hA hval
 obtain⟨v0,vs0,d0,ds0,p0,q0,hargs,rfl,rfl,h0,r0⟩:=trodAll_cons hA
 obtain⟨rfl,rfl,rfl⟩:=trodAll_nil r0
 obtain rfl:args=#[v0]:=by cases args;simp_all
 obtain⟨rfl,rfl⟩:=trodVars_none hV
 obtain⟨a0,rfl,rfl,rfl,w0⟩:=open_string Tryz.underlying9 (hval 0 9 v0 rfl rfl) h0
 clear hA0 hval0
 refine (walk a0 W w0 hsh hL).mono fun e W' ⟨he,bel⟩=>?_
 subst he
 exact⟨_,rfl,_,_,_,[],_,[],hW',trodAll_mk1 (shut_bool Tryz.underlying4 _),(trodAll_cons_mk (shut_string Tryz.underlying9 w0) trodAll_mk0),rfl,bel.frame _,fun h=>by cases h⟩
theorem closed:joinedFacts Tryz.pinned.checked.prog 4 Tryz.f4 Rows.fnExactRunSessionSpec Rows.fnExactRunSessionRow=true:=by
 unfold joinedFacts
 simp only[Bool.and_eq_true]
 repeat' apply And.intro
 all_goals (as_aux_lemma=>kernel_rfl)
theorem over:Rows.fnExactRunSessionRow.holds Tryz.pinned (OpenSpec.ofChange Rows.fnExactRunSessionSpec) :=
 OpenClaim.holds_of_wide 4 Tryz.f4 rfl rfl rfl rfl rfl rfl rfl ⟨rfl,rfl,rfl,rfl,rfl⟩ rfl rfl rfl rfl rfl (by as_aux_lemma=>kernel_rfl) Tryz.func4 closed
  (of_decide_eq_true (by kernel_rfl)) (by unfold Func.isWrapper;first|(rw[if_pos (by decide +kernel)];kernel_rfl)|(rw[if_neg (by decide +kernel)];exact⟨rfl,rfl⟩))
  (fun os started H enc _=>lifted os started H enc)
theorem proved:Rows.FnExactRunSessionCardSaid :=
 Claim7.holds_tied_plain_at .later [] _ true _ _ over (fun _ h=>by cases h) (by as_aux_lemma=>kernel_rfl) (fun _ h=>by cases h) fnExactRunSession_row_tie rfl ⟨rfl,rfl⟩ (by as_aux_lemma=>kernel_rfl) rfl
  (fun f fn hf hfn=>by
   obtain rfl : f = 4 := Option.some.inj ((show Tryz.prog.funcNamed "loop.example/g03209/laws.FnExactRunSession" = some 4 by as_aux_lemma => kernel_rfl).symm.trans hf) |>.symm
   obtain rfl:fn=Tryz.f4:=(Option.some.inj (Tryz.func4.symm.trans hfn)).symm
   exact⟨by as_aux_lemma=>kernel_rfl,fun j t ht=>by
    rw[Tryz.params4] at ht
    have hm:t∈[9]:=by simpa using Array.mem_of_getElem? ht
    have hall:([9].all fun u=>!Tryz.prog.wantsStandIn u)=true:=by as_aux_lemma=>kernel_rfl
    exact (show Tryz.prog.wantsStandIn t=false by simpa using List.all_eq_true.1 hall t hm)⟩)
  (by as_aux_lemma=>kernel_rfl)
#print axioms proved
end Go.Proofs.YtocbgldilgemoaaGreatDoor.fnExactRunSession
