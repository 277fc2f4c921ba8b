/- A part of the proof. -/
import Derived.Test.YthopfpplnclanaaGreatDoorW18
import Derived.Test.YthopfpplnclanaaGreatDoorW12
import Derived.Test.YthopfpplnclanaaGreatDoorW15
import Derived.Test.YthopfpplnclanaaGreatDoorW0
import Derived.Test.YthopfpplnclanaaGreatDoorW1
import Derived.Test.YthopfpplnclanaaGreatDoorW2
import Derived.Test.YthopfpplnclanaaGreatDoorW3
import Derived.Test.YthopfpplnclanaaGreatDoorW4
import Derived.Test.YthopfpplnclanaaGreatDoorW5
import Derived.Test.YthopfpplnclanaaGreatDoorW6
import Derived.Test.YthopfpplnclanaaGreatDoorW7
import Derived.Test.YthopfpplnclanaaGreatDoorW8
import Derived.Test.YthopfpplnclanaaGreatDoorW9
import Derived.Test.YthopfpplnclanaaGreatDoorW10
import Derived.Test.YthopfpplnclanaaGreatDoorW11
import Derived.Test.YthopfpplnclanaaGreatDoorW13
import Derived.Test.YthopfpplnclanaaGreatDoorW14
import Derived.Test.YthopfpplnclanaaGreatDoorW16
import Derived.Test.YthopfpplnclanaaGreatDoorW17
namespace Go.Proofs.YthopfpplnclanaaGreatDoor.Sx
attribute [local irreducible] OkQ Ok
set_option linter.unusedSimpArgs false
set_option linter.unusedVariables false
theorem kEh0:∀c∈[lives28,cEach,lawSame28],c.Ok Tryz.prog:=(cons_ok lives28_ok (cons_ok cEach_ok (cons_ok lawSame28_ok nil_ok)))
theorem kEh1:∀c∈[lives28,lawSame28],c.Ok Tryz.prog:=(cons_ok lives28_ok (cons_ok lawSame28_ok nil_ok))
theorem bIEh118:bodyI Tryz.prog 118=bodyF Tryz.f118:=by kernel_rfl
theorem nEEh118:isEsc Tryz.prog 118=false:=by kernel_rfl
open Nat renaming reduceEqDiff→Z0,reduceBEq→Z1,reduceAdd→Z2,reduceSub→Z3,reduceMul→Z4,reduceLeDiff→Z5
open Int renaming reduceEq→Z6,reduceLE→Z7,reduceLT→Z8,reduceNeg→Z9,reduceToNat→ZA,reduceAdd→ZB,reduceSub→ZC,reduceMul→ZD
set_option maxRecDepth 8000
def erS:List UInt8:=[101,114,114,111,114,32]
def apiErr:Con:=⟨116,[(false,.int .i64)],[(false,.str)],fun _=>True,fun x=>(erS++Lib.itoa x.1,()),true⟩
theorem apiErr_ok:apiErr.Ok Tryz.prog:=by
 refine con_q Tryz.func116 rfl (by decide) (fun x hx hp=>go0 (cons_ok strItoa_ok nil_ok) 400 ?_) (by decide)
 obtain⟨(n:Int),⟨⟩⟩:=x
 have hn: -9223372036854775808≤n∧n≤9223372036854775807:=i64_in hx.1
 have hl:(Lib.itoa n).length≤20:=itoa_len hn.1 hn.2
 clear hx hp
 simp(maxSteps:=4000000)only[go_sem,reduceIte,reduceCtorEq,Z0,Z1,Z2,Z3,Z4,Z5,Z6,Z7,Z8,Z9,ZA,ZB,ZC,ZD,Tryz.f116,apiErr,erS,strItoa]
 (repeat' first|apply And.intro|intro _)
 all_goals first|contradiction|omega|rfl|fail
theorem few_all(l:List CD):eachL (-1) l=l:=if_neg (by omega)
noncomputable def lawClasstestAhead:Con:=⟨3,[(false,.str),(false,.str)],[(false,.bool)],(tyL [(false,.str),(false,.str)]).small,fun _=>(true,()),false⟩
set_option maxHeartbeats 8000000 in
theorem lawClasstestAhead_ok:lawClasstestAhead.Ok Tryz.prog:=by
 refine con_q Tryz.func3 rfl (by decide) (fun x hx hp=>go0 kEh0 0 ?_) (by decide)
 obtain⟨(t:List UInt8),(m:List UInt8),⟨⟩⟩:=x
 clear hx hp
 by_cases ht:60000<t.length
 ·have dl:decide ((60000:Int)<(t.length:Int))=true:=decide_eq_true (by omega)
  refine go0 (cons_ok lives28_ok nil_ok) 100 ?_
  simp(maxSteps:=4000000)only[go_sem,reduceIte,reduceCtorEq,Z0,Z1,Z2,Z3,Z4,Z5,Z6,Z7,Z8,Z9,ZA,ZB,ZC,ZD,Tryz.f3,lawClasstestAhead,closed,dl,lives28]
  (repeat' first|apply And.intro|intro _)
  all_goals first|contradiction|omega|rfl|trivial|fail
 have dt:decide ((60000:Int)<(t.length:Int))=false:=decide_eq_false (by omega)
 by_cases hm:60000<m.length
 ·have dl:decide ((60000:Int)<(m.length:Int))=true:=decide_eq_true (by omega)
  refine go0 (cons_ok lives28_ok nil_ok) 100 ?_
  simp(maxSteps:=4000000)only[go_sem,reduceIte,reduceCtorEq,Z0,Z1,Z2,Z3,Z4,Z5,Z6,Z7,Z8,Z9,ZA,ZB,ZC,ZD,Tryz.f3,lawClasstestAhead,closed,dt,dl,lives28]
  (repeat' first|apply And.intro|intro _)
  all_goals first|contradiction|omega|rfl|trivial|fail
 have dm:decide ((60000:Int)<(m.length:Int))=false:=decide_eq_false (by omega)
 refine run_ok (Cs:=[lives28,cEach,lawSame28]) (stp:=[3]) (inl:=[]) (unr:=false) (cons_ok lives28_ok (cons_ok cEach_ok (cons_ok lawSame28_ok nil_ok))) 60 _ _ _ _ ?_
 simp(maxSteps:=4000000)only[go_sem,reduceIte,reduceCtorEq,Z0,Z1,Z2,Z3,Z4,Z5,Z6,Z7,Z8,Z9,ZA,ZB,ZC,ZD,Tryz.f3,lawClasstestAhead,closed,dt,dm,lives28,cEach,lawSame28]
 (repeat' first|apply And.intro|intro _)
 all_goals try first|contradiction|omega
 refine OkQ.cut (α:=List UInt8) 2 [11,12,13,14,15,16,17,18,19,20,21,22,24,25,26,27,28,29,30,31,32,33,34,35] (fun T=>[(0,.s (.str T))]) (fun _=>[]) 0 (fun T=>T.length≤60001∧(T=[]∨T.getD (T.length - 1) 0=10)) rfl ?_ fun T hT=>?_
 ·by_cases h0:t=[]
  ·have d0:decide (t=[])=true:=decide_eq_true h0
   refine go0 (cons_ok lives28_ok nil_ok) 60 ?_
   simp(maxSteps:=4000000)only[go_sem,reduceIte,reduceCtorEq,Z0,Z1,Z2,Z3,Z4,Z5,Z6,Z7,Z8,Z9,ZA,ZB,ZC,ZD,d0,lives28]
   (repeat' first|apply And.intro|intro _)
   all_goals try first|contradiction|omega
   exact⟨t,⟨by omega,.inl h0⟩,rfl⟩
  have d0:decide (t=[])=false:=decide_eq_false h0
  have hl0:0<t.length:=List.length_pos_iff.2 h0
  have hw:wr .i64 ((t.length:Int) - 1)=((t.length - 1:Nat):Int):=by rw[wr_i64 (by omega) (by omega)];omega
  by_cases h10:t.getD (t.length - 1) 0=10
  ·have d10:decide (((t.getD (t.length - 1) 0).toNat:Int)=10)=true:=by rw[h10];decide
   refine go0 (cons_ok lives28_ok nil_ok) 60 ?_
   simp(maxSteps:=4000000)only[go_sem,reduceIte,reduceCtorEq,Z0,Z1,Z2,Z3,Z4,Z5,Z6,Z7,Z8,Z9,ZA,ZB,ZC,ZD,d0,hw,d10,lives28]
   (repeat' first|apply And.intro|intro _)
   all_goals try first|contradiction|omega
   exact⟨t,⟨by omega,.inr h10⟩,rfl⟩
  ·have d10:decide (((t.getD (t.length - 1) 0).toNat:Int)=10)=false:=decide_eq_false fun q=>h10 (UInt8.toNat_inj.1 (by
    have e10:(10:UInt8).toNat=10:=rfl
    omega))
   refine go0 (cons_ok lives28_ok nil_ok) 60 ?_
   simp(maxSteps:=4000000)only[go_sem,reduceIte,reduceCtorEq,Z0,Z1,Z2,Z3,Z4,Z5,Z6,Z7,Z8,Z9,ZA,ZB,ZC,ZD,d0,hw,d10,lives28]
   (repeat' first|apply And.intro|intro _)
   all_goals try first|contradiction|omega
   refine⟨t++[10],⟨by rw[List.length_append];simp;omega,.inr ?_⟩,?_⟩
   ·simp[List.getD_eq_getElem?_getD]
   ·first|rfl|fail
 obtain⟨hTl,hTe⟩:=hT
 obtain⟨hcm,rest,hr⟩:=cases_more (m:=m) hTe
 obtain⟨A,hA⟩:∃A,A=(casesV T).2.2:=⟨_,rfl⟩
 obtain⟨B,hB⟩:∃B,B=(casesV (T++m)).2.2:=⟨_,rfl⟩
 have hAB:B=A++rest:=by rw[hA,hB,hr]
 have hfa:=few_all A
 have hfb:=few_all B
 have hlAB:A.length≤B.length:=by rw[hAB,List.length_append];omega
 have hAl:A.length≤1000000:=by
  have:=cases_count T
  rw[←hA]at this
  omega
 have dlt:decide ((B.length:Int)<(A.length:Int))=false:=decide_eq_false (by omega)
 have htk:List.take A.length B=A:=by rw[hAB];exact List.take_left
 have hsm:eqCs A A=true:=decide_eq_true rfl
 by_cases hE:(casesV T).1=0
 ·have hOA:eOk (-1) T:= .inl hE
  by_cases hE2:(casesV (T++m)).1=0
  ·have hOB:eOk (-1) (T++m):= .inl hE2
   refine run_ok (Cs:=[lives28,cEach,lawSame28]) (stp:=[7]) (inl:=[]) (unr:=false) (cons_ok lives28_ok (cons_ok cEach_ok (cons_ok lawSame28_ok nil_ok))) 60 _ _ _ _ ?_
   simp(maxSteps:=4000000)only[go_sem,reduceIte,reduceCtorEq,Z0,Z1,Z2,Z3,Z4,Z5,Z6,Z7,Z8,Z9,ZA,ZB,ZC,ZD,closed,←hA,←hB,hfa,hfb,oneN,lives28,cEach,lawSame28]
   (repeat' first|apply And.intro|intro _)
   all_goals try first|contradiction|omega|exact hOA|exact hOB|(show T.length≤_;omega)|(show(T++m).length≤_;rw[List.length_append];omega)
   refine go0 kEh0 200 ?_
   simp(maxSteps:=4000000)only[go_sem,reduceIte,reduceCtorEq,Z0,Z1,Z2,Z3,Z4,Z5,Z6,Z7,Z8,Z9,ZA,ZB,ZC,ZD,closed,dlt,htk,hsm,oneN,lives28,cEach,lawSame28]
   (repeat' first|apply And.intro|intro _)
   all_goals first|contradiction|omega|rfl|trivial|fail
  have hOB:¬eOk (-1) (T++m):=by
   rintro(q|q)
   ·exact hE2 q
   ·omega
  refine run_ok (Cs:=[lives28,cEach,lawSame28]) (stp:=[6]) (inl:=[]) (unr:=false) (cons_ok lives28_ok (cons_ok cEach_ok (cons_ok lawSame28_ok nil_ok))) 60 _ _ _ _ ?_
  simp(maxSteps:=4000000)only[go_sem,reduceIte,reduceCtorEq,Z0,Z1,Z2,Z3,Z4,Z5,Z6,Z7,Z8,Z9,ZA,ZB,ZC,ZD,closed,←hA,hfa,oneN,lives28,cEach,lawSame28]
  (repeat' first|apply And.intro|intro _)
  all_goals try first|contradiction|omega|exact hOA|(show T.length≤_;omega)
  refine go0 kEh1 60 ?_
  simp(maxSteps:=4000000)only[go_sem,reduceIte,reduceCtorEq,Z0,Z1,Z2,Z3,Z4,Z5,Z6,Z7,Z8,Z9,ZA,ZB,ZC,ZD,closed,lives28,lawSame28]
  (repeat' first|apply And.intro|intro _)
  all_goals try first|contradiction|omega
  refine OkQ.mcall cEachX_ok ([120],T++m,-1,()) rfl rfl rfl (by trivial) rfl rfl ⟨by show(T++m).length≤_;rw[List.length_append];omega,hOB⟩ fun hwf=>?_
  refine run_ok (Cs:=[lives28,lawSame28]) (stp:=[9]) (inl:=[]) (unr:=false) (cons_ok lives28_ok (cons_ok lawSame28_ok nil_ok)) 200 _ _ _ _ ?_
  simp(maxSteps:=4000000)only[go_sem,reduceIte,reduceCtorEq,Z0,Z1,Z2,Z3,Z4,Z5,Z6,Z7,Z8,Z9,ZA,ZB,ZC,ZD,closed,cEachX,MCon.R,MCon.O,←hB,dlt,htk,hsm,oneN,lives28,lawSame28]
  (repeat' first|apply And.intro|intro _)
  all_goals try first|contradiction|omega|rfl|trivial
  refine go0 kEh1 12 ?_
  simp(maxSteps:=4000000)only[go_sem,reduceIte,reduceCtorEq,Z0,Z1,Z2,Z3,Z4,Z5,Z6,Z7,Z8,Z9,ZA,ZB,ZC,ZD,closed,oneN,lives28,lawSame28]
  refine OkQ.skip (.s (.bool false)) rfl rfl ?_
  refine go0 kEh1 200 ?_
  simp(maxSteps:=4000000)only[go_sem,reduceIte,reduceCtorEq,Z0,Z1,Z2,Z3,Z4,Z5,Z6,Z7,Z8,Z9,ZA,ZB,ZC,ZD,closed,oneN,lives28,lawSame28]
  all_goals fail
 have hcc:=hcm hE
 have hOA:¬eOk (-1) T:=by
  rintro(q|q)
  ·exact hE q
  ·omega
 have hOB:¬eOk (-1) (T++m):=by
  unfold eOk
  rw[hcc]
  exact hOA
 obtain⟨⟨b1,b2⟩,b3,b4⟩:=cases_bnd T
 have hi1:(Lib.itoa (casesV T).2.1).length≤20:=itoa_len (by omega) (by omega)
 have hi2:(Lib.itoa (casesV T).1).length≤20:=itoa_len (by omega) (by omega)
 have hes:erS.length=6:=rfl
 have hBA:B=A:=by rw[hB,hcc,hA]
 have dlA:decide ((A.length:Int)<(A.length:Int))=false:=decide_eq_false (by omega)
 have htA:List.take A.length A=A:=List.take_length
 have deA:decide ((A.length:Int)=(A.length:Int))=true:=decide_eq_true rfl
 refine go0 kEh1 60 ?_
 simp(maxSteps:=4000000)only[go_sem,reduceIte,reduceCtorEq,Z0,Z1,Z2,Z3,Z4,Z5,Z6,Z7,Z8,Z9,ZA,ZB,ZC,ZD,closed,lives28,lawSame28]
 (repeat' first|apply And.intro|intro _)
 all_goals try first|contradiction|omega
 refine OkQ.mcall cEachX_ok ([120],T,-1,()) rfl rfl rfl (by trivial) rfl rfl ⟨by show T.length≤_;omega,hOA⟩ fun hwf=>?_
 refine go0 kEh1 60 ?_
 simp(maxSteps:=4000000)only[go_sem,reduceIte,reduceCtorEq,Z0,Z1,Z2,Z3,Z4,Z5,Z6,Z7,Z8,Z9,ZA,ZB,ZC,ZD,closed,cEachX,MCon.R,MCon.O,←hA,oneN,lives28,lawSame28]
 (repeat' first|apply And.intro|intro _)
 all_goals try first|contradiction|omega|(rw[List.length_append];omega)
 refine OkQ.mcall cEachX_ok ([120],T++m,-1,()) rfl rfl rfl (by trivial) rfl rfl ⟨by show(T++m).length≤_;rw[List.length_append];omega,hOB⟩ fun hwf2=>?_
 refine go0 kEh1 200 ?_
 simp(maxSteps:=4000000)only[go_sem,reduceIte,reduceCtorEq,Z0,Z1,Z2,Z3,Z4,Z5,Z6,Z7,Z8,Z9,ZA,ZB,ZC,ZD,closed,cEachX,MCon.R,MCon.O,hcc,←hA,dlA,htA,hsm,oneN,lives28,lawSame28]
 (repeat' first|apply And.intro|intro _)
 all_goals try first|contradiction|omega
 refine OkQ.callIf fault_Error rfl (.inr ⟨_,_,rfl,rfl⟩) rfl (by trivial) rfl (bIEh118.trans rfl) (by decide) ?_
 simp(maxSteps:=4000000)only[go_sem,reduceIte,reduceCtorEq,Z0,Z1,Z2,Z3,Z4,Z5,Z6,Z7,Z8,Z9,ZA,ZB,ZC,ZD,bIEh118,nEEh118,Tryz.f118,lives28,lawSame28]
 refine go0 (cons_ok strItoa_ok (cons_ok apiErr_ok nil_ok)) 200 ?_
 simp(maxSteps:=4000000)only[go_sem,reduceIte,reduceCtorEq,Z0,Z1,Z2,Z3,Z4,Z5,Z6,Z7,Z8,Z9,ZA,ZB,ZC,ZD,RetI,strItoa,apiErr]
 (repeat' first|apply And.intro|intro _)
 all_goals try first|(show staB _ _=true;kernel_rfl)|(show dynB _ _=true;kernel_rfl)|(show dynP _ _ _=true;kernel_rfl)
 all_goals try first|contradiction|omega
 refine go0 (cons_ok strItoa_ok (cons_ok apiErr_ok nil_ok)) 30 ?_
 simp(maxSteps:=4000000)only[go_sem,reduceIte,reduceCtorEq,Z0,Z1,Z2,Z3,Z4,Z5,Z6,Z7,Z8,Z9,ZA,ZB,ZC,ZD,strItoa,apiErr]
 refine OkQ.callIf fault_Error rfl (.inr ⟨_,_,rfl,rfl⟩) rfl (by trivial) rfl (bIEh118.trans rfl) (by decide) ?_
 simp(maxSteps:=4000000)only[go_sem,reduceIte,reduceCtorEq,Z0,Z1,Z2,Z3,Z4,Z5,Z6,Z7,Z8,Z9,ZA,ZB,ZC,ZD,bIEh118,nEEh118,Tryz.f118,strItoa,apiErr]
 refine go0 (cons_ok strItoa_ok (cons_ok apiErr_ok nil_ok)) 200 ?_
 simp(maxSteps:=4000000)only[go_sem,reduceIte,reduceCtorEq,Z0,Z1,Z2,Z3,Z4,Z5,Z6,Z7,Z8,Z9,ZA,ZB,ZC,ZD,RetI,strItoa,apiErr]
 (repeat' first|apply And.intro|intro _)
 all_goals try first|(show staB _ _=true;kernel_rfl)|(show dynB _ _=true;kernel_rfl)|(show dynP _ _ _=true;kernel_rfl)
 all_goals try first|contradiction|omega
 refine go0 (cons_ok strItoa_ok (cons_ok apiErr_ok nil_ok)) 200 ?_
 simp(maxSteps:=4000000)only[go_sem,reduceIte,reduceCtorEq,Z0,Z1,Z2,Z3,Z4,Z5,Z6,Z7,Z8,Z9,ZA,ZB,ZC,ZD,strItoa,apiErr]
 all_goals fail
end Go.Proofs.YthopfpplnclanaaGreatDoor.Sx
