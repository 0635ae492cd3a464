/- NewBench, both, walked. Asks the shelf's text (strings.Split). No condition. -/
import Derived.Test.YtocbgldilgemoaaGreatDoorM12
namespace Go.Proofs.YtocbgldilgemoaaGreatDoor
set_option maxRecDepth 4000
set_option maxHeartbeats 1000000
open Go.RowKit
set_option linter.unusedVariables false
def Vi:List ByteArray:=[{ data:=#[97,98] },{ data:=#[97] }]
theorem ZkK:ZD 44 { data:=#[97,98,44,97] }=Vi:=by
 show [Zd [97,98],Zd [97]]=Vi
 rfl
theorem ZiZ:psV { data:=#[97,98,44,97] }=some Vi:=by
 rw[psV,ZkK,if_pos (by decide)]
theorem Zi0:nmT { data:=#[102,105,98,111,110,97,99,99,105] }={ data:=#[97,98,44,97] }:=by rw[nmT,if_pos rfl]
theorem Zi1:psL (nmT { data:=#[102,105,98,111,110,97,99,99,105] })=Vi:=by rw[Zi0,psL,ZiZ];rfl
theorem ZfZ:(psV (nmT { data:=#[102,105,98,111,110,97,99,99,105] })).isSome=true:=by rw[Zi0,ZiZ];rfl
theorem VM (w:World) (hml:MlS w) :
  Calls Tryz.prog 7 #[] w fun e w'=>∃ A c,e=.returned (.agg #[.slice A 2 c,.string { data:=#[97] }])∧Own w' w.heap.size 9 (.slice A 2 c) (Vi.map Value.string)∧Below w.heap.size w w':=by
 have bA:Below w.heap.size w (w.alloc (.cells #[.slice none 0 0,.string { data:=#[] }] 28)):=(Below.refl _ _).alloc nlr _
 have h0:=heap_alloc_new w (.cells #[.slice none 0 0,.string { data:=#[] }] 28)
 have z0:(w.alloc (.cells #[.slice none 0 0,.string { data:=#[] }] 28)).heap.size=w.heap.size+1:=by simp
 have hc:=WB { data:=#[102,105,98,111,110,97,99,99,105] } (w.alloc (.cells #[.slice none 0 0,.string { data:=#[] }] 28)) (hml.below bA)
 rw[Zi1,ZfZ,z0] at hc
 simp only[show Vi.length=2 from rfl] at hc
 have HC:=Hd hc;have BA:=Hd bA;have H0:=Hd h0;have Z0:=Hd z0
 clear hc bA h0 z0
 go_enter Tryz.func7,Tryz.ntmps7
 go_wp2_with (go_at_call 23;refine HC.o.mono ?_;rintro e w1 ⟨A,c,rfl,o1,b1⟩;have bB:Below w1.heap.size w1 (w1.alloc (.cells #[.slice A 2 c] 26)):=(Below.refl _ _).alloc nlr _;have q1:=(bB.block w.heap.size (by have:=b1.size;have:=Z0.out;omega)).trans ((b1.block w.heap.size (by have:=Z0.out;omega)).trans H0.o);have k1:=cell_of_row _ _ 0 _ _ (0,0) q1;have k2:=cell_of_row _ _ 1 _ _ (0,0) q1;have f1:=frozen_of_row _ _ 0 _ _ q1;have f2:=frozen_of_row _ _ 1 _ _ q1)
 have z1:=b1.size
 rw[Z0.out] at z1
 have hw2:=BA.out.trans ((b1.mono (by omega)).trans (bB.mono (by omega)))
 have ho:=(((o1.below bB).far_set (g:=w.heap.size) (k:=0) (by omega) (.slice A 2 c)).far_set (g:=w.heap.size) (k:=1) (by omega) (.string { data:=#[97] })).lower (B':=w.heap.size) (by omega)
 refine bodyPost_ret (results_cell_row rfl _ _ w.heap.size 28 _ (0,0) _ rfl (Zg (k:=1) (Zg (k:=0) q1 (.slice A 2 c)) (.string { data:=#[97] })) Tryz.underlying28 rfl (by kernel_rfl)) rfl ?_
 exact⟨A,c,rfl,ho,(hw2.setCell nlr _).setCell nlr _⟩
theorem ZaB (w:World) :
  Calls Tryz.prog 36 #[] w fun e w'=>∃ A c,e=.returned (.agg #[.slice A 2 c,.string { data:=#[97] }])∧Own w' w.heap.size 9 (.slice A 2 c) (Vi.map Value.string)∧Below w.heap.size w w':=by
 have bA:Below w.heap.size w (w.alloc (.cells #[.slice none 0 0,.string { data:=#[] }] 28)):=(Below.refl _ _).alloc nlr _
 have h0:=heap_alloc_new w (.cells #[.slice none 0 0,.string { data:=#[] }] 28)
 have z0:(w.alloc (.cells #[.slice none 0 0,.string { data:=#[] }] 28)).heap.size=w.heap.size+1:=by simp
 have hc:=VU { data:=#[102,105,98,111,110,97,99,99,105] } (w.alloc (.cells #[.slice none 0 0,.string { data:=#[] }] 28))
 rw[Zi1,ZfZ,z0] at hc
 simp only[show Vi.length=2 from rfl] at hc
 have HC:=Hd hc;have BA:=Hd bA;have H0:=Hd h0;have Z0:=Hd z0
 clear hc bA h0 z0
 go_enter Tryz.func36,Tryz.ntmps36
 go_wp2_with (go_at_call 76;refine HC.o.mono ?_;rintro e w1 ⟨A,c,rfl,o1,b1⟩;have bB:Below w1.heap.size w1 (w1.alloc (.cells #[.slice A 2 c] 26)):=(Below.refl _ _).alloc nlr _;have q1:=(bB.block w.heap.size (by have:=b1.size;have:=Z0.out;omega)).trans ((b1.block w.heap.size (by have:=Z0.out;omega)).trans H0.o);have k1:=cell_of_row _ _ 0 _ _ (0,0) q1;have k2:=cell_of_row _ _ 1 _ _ (0,0) q1;have f1:=frozen_of_row _ _ 0 _ _ q1;have f2:=frozen_of_row _ _ 1 _ _ q1)
 have z1:=b1.size
 rw[Z0.out] at z1
 have hw2:=BA.out.trans ((b1.mono (by omega)).trans (bB.mono (by omega)))
 have ho:=(((o1.below bB).far_set (g:=w.heap.size) (k:=0) (by omega) (.slice A 2 c)).far_set (g:=w.heap.size) (k:=1) (by omega) (.string { data:=#[97] })).lower (B':=w.heap.size) (by omega)
 refine bodyPost_ret (results_cell_row rfl _ _ w.heap.size 28 _ (0,0) _ rfl (Zg (k:=1) (Zg (k:=0) q1 (.slice A 2 c)) (.string { data:=#[97] })) Tryz.underlying28 rfl (by kernel_rfl)) rfl ?_
 exact⟨A,c,rfl,ho,(hw2.setCell nlr _).setCell nlr _⟩
end Go.Proofs.YtocbgldilgemoaaGreatDoor
