/- A part of the proof. -/
import Derived.Test.YthopfpplnclanaaGreatDoorW3
import Derived.Test.YthopfpplnclanaaGreatDoorW0
import Derived.Test.YthopfpplnclanaaGreatDoorW1
import Derived.Test.YthopfpplnclanaaGreatDoorW2
namespace Go.Proofs.YthopfpplnclanaaGreatDoor.Sx
attribute [local irreducible] OkQ Ok
set_option linter.unusedSimpArgs false
set_option linter.unusedVariables false
theorem kNd0:∀c∈[strHasPrefix,strIndexByte],c.Ok Tryz.prog:=(cons_ok strHasPrefix_ok (cons_ok strIndexByte_ok nil_ok))
open Nat renaming reduceEqDiff→Z0,reduceBEq→Z1,reduceAdd→Z2,reduceSub→Z3,reduceMul→Z4,reduceLeDiff→Z5
open Int renaming reduceEq→Z6,reduceLE→Z7,reduceLT→Z8,reduceNeg→Z9,reduceToNat→ZA,reduceAdd→ZB,reduceSub→ZC,reduceMul→ZD
set_option maxRecDepth 8000
abbrev PcD:=Int×Int×Int×Unit
abbrev tPc:Ty:= .pair (.int .i64) (.pair (.int .i64) (.pair (.int .i64) .unit))
def crN(t:List UInt8)(a n:Nat):Nat:=if 0<n∧t.getD (a+n - 1) 0=13 then 1 else 0
def pcsFrom(t:List UInt8):Nat→Nat→List PcD
 |0,_=>[]
 |f+1,a=>if Lib.indexByte (t.drop a) 10<0 then [((a:Int),(t.length:Int),(t.length:Int),())]else
   ((a:Int),((a+(Lib.indexByte (t.drop a) 10).toNat - crN t a (Lib.indexByte (t.drop a) 10).toNat:Nat):Int),((a+(Lib.indexByte (t.drop a) 10).toNat+1:Nat):Int),())::pcsFrom t f (a+(Lib.indexByte (t.drop a) 10).toNat+1)
def bomV:List UInt8:=[239,187,191]
def bomN(t:List UInt8):Nat:=if Lib.hasPrefix t bomV=true then 3 else 0
theorem bom_len(t:List UInt8):bomN t≤t.length:=by
 unfold bomN
 split
 ·rename_i h;exact hp_len h
 ·exact Nat.zero_le _
def pcsV(t:List UInt8):List PcD:=pcsFrom t (t.length+1) (bomN t)
theorem byte13(b:UInt8):((b.toNat:Int)=13)=(b=13):=by
 apply propext
 constructor
 ·intro h
  have h':b.toNat=(13:UInt8).toNat:=by
   have:(13:UInt8).toNat=13:=rfl
   omega
  exact UInt8.toNat_inj.1 h'
 ·rintro rfl
  rfl
theorem pcs_len(t:List UInt8):∀f a,a≤t.length→(pcsFrom t f a).length≤t.length - a+1
 |0,a,_=>by simp[pcsFrom]
 |f+1,a,ha=>by
  have hlt:=idx_lt (t.drop a) 10
  rw[List.length_drop]at hlt
  unfold pcsFrom
  split
  ·simp
  ·rename_i h
   have ih:=pcs_len t f (a+(Lib.indexByte (t.drop a) 10).toNat+1) (by omega)
   rw[List.length_cons]
   omega
def linPieces:Con:=⟨48,[(false,.str)],[(false,.slice 24 tPc)],fun x=>(x.1:List UInt8).length≤1000000000000,fun x=>(pcsV x.1,()),false⟩
set_option maxHeartbeats 4000000 in
theorem linPieces_ok:linPieces.Ok Tryz.prog:=by
 refine con_q Tryz.func48 rfl (by decide) (fun x hx hp=>go0 kNd0 0 ?_) (by decide)
 obtain⟨(t:List UInt8),⟨⟩⟩:=x
 have hz:t.length≤1000000000000:=hp
 clear hx hp
 have hbl:=bom_len t
 cases hB:Lib.hasPrefix t [239,187,191]
 all_goals(
  have hb0:bomN t=(if Lib.hasPrefix t [239,187,191]=true then 3 else 0):=rfl
  rw[hB]at hb0
  simp only[reduceIte,Bool.false_eq_true]at hb0
  refine go0 kNd0 400 ?_
  simp(maxSteps:=4000000)only[go_sem,reduceIte,reduceCtorEq,Z0,Z1,Z2,Z3,Z4,Z5,Z6,Z7,Z8,Z9,ZA,ZB,ZC,ZD,Tryz.f48,linPieces,hB,strHasPrefix,strIndexByte]
  (repeat' first|apply And.intro|intro _)
  refine OkQ.virt 24 tPc ?_
  refine OkQ.loop (α:=List PcD×Nat) [1,2,3,4,5,6,7,8,9,10,11,12,13,14,15,16,17,18,19,20,21,22,23,24,25,26,27,28,29,30,31,32,33,34,35,36,37,38,39,40,41,42,43,44,45,46,47,48,49,50,51,52] (fun x=>[(3,.s (.sub 0 0 x.1.length)),(4,.s (.int .i64 (x.2:Int)))]) (fun x=>[(0,.arr false 24 tPc x.1)]) (fun x=>x.2≤t.length∧x.1.length≤x.2∧∃f,t.length+1 - x.2≤f∧pcsV t=x.1++pcsFrom t f x.2) (fun x=>t.length - x.2) ([],bomN t) ⟨hbl,Nat.zero_le _,t.length+1,by omega,rfl⟩ ?_ fun x hx=>?_
  ·simp(maxSteps:=4000000)only[go_sem,reduceIte,reduceCtorEq,Z0,Z1,Z2,Z3,Z4,Z5,Z6,Z7,Z8,Z9,ZA,ZB,ZC,ZD,hb0,strHasPrefix,strIndexByte]
   all_goals first|rfl|exact⟨rfl,rfl⟩|exact⟨⟨rfl,rfl⟩,rfl⟩|fail
  obtain⟨done,a⟩:=x
  obtain⟨ha,hdl,f,hf,hd⟩:=hx
  dsimp only at ha hdl hf hd ⊢
  have e10:Nat.toUInt8 10=10:=rfl
  have hlt:=idx_lt (t.drop a) 10
  have hge:=Lib.indexByte_ge (t.drop a) 10
  rw[List.length_drop]at hlt
  have ht:List.take (t.length - a) (List.drop a t)=List.drop a t:=List.take_of_length_le (by simp)
  obtain⟨f,rfl⟩:∃f',f=f'+1:=⟨f - 1,by omega⟩
  rw[pcsFrom]at hd
  by_cases h0:Lib.indexByte (t.drop a) 10<0
  ·have d0:decide (Lib.indexByte (List.drop a t) 10<0)=true:=decide_eq_true h0
   rw[if_pos h0]at hd
   refine go0 kNd0 400 ?_
   simp(maxSteps:=4000000)only[go_sem,reduceIte,reduceCtorEq,Z0,Z1,Z2,Z3,Z4,Z5,Z6,Z7,Z8,Z9,ZA,ZB,ZC,ZD,e10,ht,d0,strHasPrefix,strIndexByte]
   (repeat' first|apply And.intro|intro _)
   all_goals first|contradiction|omega|(rw[hd];simp;done)|(rw[hd];exact List.take_of_length_le (by simp))|fail
  have d0:decide (Lib.indexByte (List.drop a t) 10<0)=false:=decide_eq_false h0
  rw[if_neg h0]at hd
  obtain⟨n,hn⟩:∃n:Nat,Lib.indexByte (List.drop a t) 10=(n:Int):=⟨(Lib.indexByte (List.drop a t) 10).toNat,by omega⟩
  rw[hn]at hd hlt d0 h0
  have hnt:((n:Int)).toNat=n:=rfl
  rw[hnt]at hd
  have w1:wr .i64 ((a:Int)+(n:Int))=((a+n:Nat):Int):=by rw[wr_i64 (by omega) (by omega)];omega
  have w2:wr .i64 (((a+n:Nat):Int)+1)=((a+n+1:Nat):Int):=by rw[wr_i64 (by omega) (by omega)];omega
  by_cases hp:0<n
  ·have dp:decide (0<(n:Int))=true:=decide_eq_true (by omega)
   have w3:wr .i64 (((a+n:Nat):Int) - 1)=((a+n - 1:Nat):Int):=by rw[wr_i64 (by omega) (by omega)];omega
   by_cases hc:t.getD (a+n - 1) 0=13
   ·have dc:decide (((t.getD (a+n - 1) 0).toNat:Int)=13)=true:=decide_eq_true (by rw[byte13];exact hc)
    have hcr:crN t a n=1:=if_pos ⟨hp,hc⟩
    rw[hcr]at hd
    refine go0 kNd0 400 ?_
    simp(maxSteps:=4000000)only[go_sem,reduceIte,reduceCtorEq,Z0,Z1,Z2,Z3,Z4,Z5,Z6,Z7,Z8,Z9,ZA,ZB,ZC,ZD,e10,ht,hn,d0,w1,w2,w3,dp,dc,strHasPrefix,strIndexByte]
    (repeat' first|apply And.intro|intro _)
    all_goals try first|contradiction|omega
    refine⟨(done++[((a:Int),((a+n - 1:Nat):Int),((a+n+1:Nat):Int),())],a+n+1),⟨by dsimp only;omega,by simp;omega,f,by dsimp only;omega,by rw[hd];simp⟩,by dsimp only;omega,?_⟩
    simp(maxSteps:=4000000)only[go_sem,reduceIte,reduceCtorEq,Z0,Z1,Z2,Z3,Z4,Z5,Z6,Z7,Z8,Z9,ZA,ZB,ZC,ZD,strHasPrefix,strIndexByte]
    all_goals first|rfl|exact⟨rfl,rfl⟩|simp|fail
   ·have dc:decide (((t.getD (a+n - 1) 0).toNat:Int)=13)=false:=decide_eq_false (by rw[byte13];exact hc)
    have hcr:crN t a n=0:=if_neg fun h=>hc h.2
    rw[hcr]at hd
    refine go0 kNd0 400 ?_
    simp(maxSteps:=4000000)only[go_sem,reduceIte,reduceCtorEq,Z0,Z1,Z2,Z3,Z4,Z5,Z6,Z7,Z8,Z9,ZA,ZB,ZC,ZD,e10,ht,hn,d0,w1,w2,w3,dp,dc,strHasPrefix,strIndexByte]
    (repeat' first|apply And.intro|intro _)
    all_goals try first|contradiction|omega
    refine⟨(done++[((a:Int),((a+n:Nat):Int),((a+n+1:Nat):Int),())],a+n+1),⟨by dsimp only;omega,by simp;omega,f,by dsimp only;omega,by rw[hd];simp⟩,by dsimp only;omega,?_⟩
    simp(maxSteps:=4000000)only[go_sem,reduceIte,reduceCtorEq,Z0,Z1,Z2,Z3,Z4,Z5,Z6,Z7,Z8,Z9,ZA,ZB,ZC,ZD,strHasPrefix,strIndexByte]
    all_goals first|rfl|exact⟨rfl,rfl⟩|simp|fail
  ·have dp:decide (0<(n:Int))=false:=decide_eq_false (by omega)
   have hcr:crN t a n=0:=if_neg fun h=>hp h.1
   rw[hcr]at hd
   refine go0 kNd0 400 ?_
   simp(maxSteps:=4000000)only[go_sem,reduceIte,reduceCtorEq,Z0,Z1,Z2,Z3,Z4,Z5,Z6,Z7,Z8,Z9,ZA,ZB,ZC,ZD,e10,ht,hn,d0,w1,w2,dp,strHasPrefix,strIndexByte]
   (repeat' first|apply And.intro|intro _)
   all_goals try first|contradiction|omega
   refine⟨(done++[((a:Int),((a+n:Nat):Int),((a+n+1:Nat):Int),())],a+n+1),⟨by dsimp only;omega,by simp;omega,f,by dsimp only;omega,by rw[hd];simp⟩,by dsimp only;omega,?_⟩
   simp(maxSteps:=4000000)only[go_sem,reduceIte,reduceCtorEq,Z0,Z1,Z2,Z3,Z4,Z5,Z6,Z7,Z8,Z9,ZA,ZB,ZC,ZD,strHasPrefix,strIndexByte]
   all_goals first|rfl|exact⟨rfl,rfl⟩|simp|fail)
end Go.Proofs.YthopfpplnclanaaGreatDoor.Sx
