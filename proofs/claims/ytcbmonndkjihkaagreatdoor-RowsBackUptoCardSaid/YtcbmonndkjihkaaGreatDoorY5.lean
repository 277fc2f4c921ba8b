/- 'furrowlaw06.RowsBack': the law returns true, and the input reads as it did. Where what comes holds at most 1048576 values and letters, and the listed package-level variables hold what the program's text lays (the card ties them). -/
import Derived.Test.YtcbmonndkjihkaaGreatDoorY4
import Derived.Test.YtcbmonndkjihkaaGreatDoorY3
import Derived.Deep.DeepHandedRow
import Derived.LaidHandle
import Derived.LaidLaws
import Derived.Lay
import Derived.Test.YtcbmonndkjihkaaGreatDoorRows
import Derived.Lib.LaidTab
import Derived.Stop.LaidErr
import Derived.Shelf.Vars
import Derived.Test.YtcbmonndkjihkaaGreatDoorTie
import Derived.Test.YtcbmonndkjihkaaGreatDoorCards
import Derived.Test.YtcbmonndkjihkaaGreatDoorY0
import Derived.Test.YtcbmonndkjihkaaGreatDoorY1
import Derived.Test.YtcbmonndkjihkaaGreatDoorY2
namespace Go.Proofs.YtcbmonndkjihkaaGreatDoor.Sx
attribute [local irreducible] OkQ Ok
set_option linter.unusedSimpArgs false
set_option linter.unusedVariables false
open Nat renaming reduceEqDiff→Z0,reduceBEq→Z1,reduceAdd→Z2,reduceSub→Z3,reduceMul→Z4,reduceLeDiff→Z5
open Int renaming reduceEq→Z6,reduceLE→Z7,reduceLT→Z8,reduceNeg→Z9,reduceToNat→ZA,reduceAdd→ZB,reduceSub→ZC,reduceMul→ZD
set_option maxRecDepth 8000
def inRow(r:Int)(x:RowD):Bool:=decide (x.2.1≤r)&&decide (r≤x.2.2.1)
def findV(l:List RowD)(r:Int):Option RowD:=l.find? (inRow r)
noncomputable def rowsFind:Con:=⟨21,[(false,tRows),(false,.int .i32)],[(true,tRow),(false,.bool)],fun _=>True,fun x=>((findV x.1 x.2.1).getD rowZ,(findV x.1 x.2.1).isSome,()),false⟩
theorem find_step{l:List RowD}{r:Int}{i:Nat}(hi:i<l.length):findV (l.drop i) r=if inRow r (l.getD i rowZ)=true then some (l.getD i rowZ)else findV (l.drop (i+1)) r:=by
 have e:l.getD i rowZ=l[i]:=by simp[List.getD_eq_getElem?_getD,hi]
 rw[List.drop_eq_getElem_cons hi,findV,List.find?_cons,e]
 cases inRow r l[i]<;>simp[findV]
theorem find_end{l:List RowD}{r:Int}{i:Nat}(hi:l.length≤i):findV (l.drop i) r=none:=by rw[List.drop_eq_nil_of_le hi];rfl
theorem rowsFind_ok:rowsFind.Ok Tryz.prog:=by
 refine con_q Tryz.func21 rfl (by decide) (fun x hx hp=>go0 nil_ok 400 ?_) (by decide)
 obtain⟨(xs:List RowD),(r:Int),⟨⟩⟩:=x
 have hsz:xs.length*64≤140737488355328:=hx.1.1
 clear hx hp
 simp(maxSteps:=4000000)only[go_sem,reduceIte,reduceCtorEq,Z0,Z1,Z2,Z3,Z4,Z5,Z6,Z7,Z8,Z9,ZA,ZB,ZC,ZD,Tryz.f21,rowsFind]
 refine OkQ.loop (α:=Nat) [0,2,3,5,6,7,10,11,12,13,14,15,16,17,18,19,20,21,22,23,24,25,26] (fun i=>[(10,.s (.int .i64 (i:Int)))]) (fun _=>[]) (fun i=>i≤xs.length∧findV xs r=findV (xs.drop i) r) (fun i=>xs.length - i) 0 ⟨by simp,by simp⟩ ?_ fun i hi=>?_
 ·simp(maxSteps:=4000000)only[go_sem,reduceIte,reduceCtorEq,Z0,Z1,Z2,Z3,Z4,Z5,Z6,Z7,Z8,Z9,ZA,ZB,ZC,ZD]
  rfl
 ·refine go0 nil_ok 400 ?_
  simp(maxSteps:=4000000)only[go_sem,reduceIte,reduceCtorEq,Z0,Z1,Z2,Z3,Z4,Z5,Z6,Z7,Z8,Z9,ZA,ZB,ZC,ZD,Tryz.f21,rowsFind]
  obtain⟨hi,ht⟩:=hi
  (repeat' first|apply And.intro|intro _)
  all_goals try omega
  all_goals first
   |(have e:findV xs r=some (xs.getD i rowZ):=by
      rw[ht,find_step (by omega),if_pos (by simp only[inRow,Bool.and_eq_true,decide_eq_true_eq];assumption)]
     rw[e];rfl)
   |(have e:findV xs r=none:=by
      rw[ht];exact find_end (by omega)
     rw[e];rfl)
   |(refine⟨i+1,⟨by omega,?_⟩,by omega,by rw[wr_i64 (by omega) (by omega)];simp⟩
     rw[ht,find_step (by omega),if_neg (by simp only[inRow,Bool.and_eq_true,decide_eq_true_eq,Classical.not_and_iff_not_or_not];assumption)])
   |fail
def rA:RowD:=(1,65,65,[76,65,84,73,78,32,67,65,80,73,84,65,76,32,76,69,84,84,69,82,32,65],[76,117],0,1,0,false,())
def rB:RowD:=(2,13312,19893,[88],[76,111],0,2,0,true,())
def txA:List UInt8:=(([48,48,52,49,59,76,65,84,73,78,32,67,65,80,73,84,65,76,32,76,69,84,84,69,82,32,65,59,76,117,59,48,59,76,59,59,59,59,59,78,59,59,59,59,48,48,54,49,59,10,51,52,48,48,59,60,88,44]:List UInt8).append [32,70,105,114,115,116,62,59,76,111,59,48,59,82,59,59,59,59,59,89,59,59,59,59,59,10,52,68,66,53,59,60,88,44,32,76,97,115,116,62,59,76,111,59,48,59,82,59,59,59,59,59,89,59,59,59,59,59,10])
def txB:List UInt8:=([10,48,48,52,49,59,65,59,76,117,59,48,59,90,59,59,59,59,59,78,59,59,59,59,59,10]:List UInt8)
theorem rv1:rowsV txA=(0,0,[rA,rB]):=by kernel_rfl
theorem rv2:rowsV txB=(50,2,[]):=by kernel_rfl
theorem fv1:findV [rA,rB] 13568=some rB:=by kernel_rfl
theorem asOk:hitB asL 16 44 46=true:=by decide
theorem asAll:AsHit Tryz.prog 16 44 46∧∀args w,(callFunc 16 args).run Tryz.prog w= .ok (.enter 16 args) w:=Hits.ok _ _ _ asOk
def rowRead1:Con:=⟨14,[(false,.str),(false,.str)],[(false,tRows),(false,.opq)],fun x=>(x.2.1:List UInt8)=txA,fun _=>([rA,rB],.nilIface,()),false⟩
theorem rowRead1_ok:rowRead1.Ok Tryz.prog where
 enters:=rowRead_ok.enters
 calls S w vs x hS hg har hwf hp i:=by
  have hp:(x.2.1:List UInt8)=txA:=hp
  have e:rowsV x.2.1=(0,0,[rA,rB]):=by rw[hp];exact rv1
  have h:=rowRead_ok.calls S w vs x hS hg har hwf ⟨(by show List.length x.2.1≤1000000000;rw[hp];decide+kernel),(by show(rowsV x.2.1).1=0;rw[e])⟩ i
  have e2:rowRead.F x=rowRead1.F x:=by
   show((rowsV x.2.1).2.2,Value.nilIface,())=([rA,rB],Value.nilIface,())
   rw[e]
  have h:Calls Tryz.prog 14 vs.toArray w (ResPost S [(false,tRows),(false,.opq)] (rowRead.F x) i w):=h
  rw[e2]at h
  exact h
def rowRead1X:XCon:=⟨14,[(false,.str),(false,.str)],[(false,[.nils])],44,48,fun x=>(x.1:List UInt8)=[102]∧(x.2.1:List UInt8)=txB,fun _=>[.str [102],.int .i64 2,.int .i64 50]⟩
theorem rowRead1X_ok:rowRead1X.Ok Tryz.prog where
 enters:=rowReadX_ok.enters
 calls S w vs x hS hg har hwf hp:=by
  obtain⟨h1,h2⟩:(x.1:List UInt8)=[102]∧(x.2.1:List UInt8)=txB:=hp
  have e:rowsV x.2.1=(50,2,[]):=by rw[h2];exact rv2
  have h:=rowReadX_ok.calls S w vs x hS hg har hwf ⟨(by show List.length x.2.1≤1000000000;rw[h2];decide+kernel),(by show¬(rowsV x.2.1).1=0;rw[e];decide)⟩
  have e2:rowReadX.F x=rowRead1X.F x:=by
   show [S1.str x.1,S1.int .i64 (rowsV x.2.1).2.1,S1.int .i64 (rowsV x.2.1).1]=[.str [102],.int .i64 2,.int .i64 50]
   rw[e,h1]
  unfold XCon.Post at h ⊢
  rw[e2]at h
  exact h
def awake06:Con:=⟨13,[],[(false,.bool)],fun _=>True,fun _=>(true,()),false⟩
set_option maxHeartbeats 4000000 in
theorem awake06_ok:awake06.Ok Tryz.prog:=by
 refine con_q Tryz.func13 rfl (by decide) (fun x hx hp=>go0 (cons_ok rowRead1_ok (cons_ok rowsFind_ok nil_ok)) 0 ?_) (by decide)
 clear hx hp
 have gB:([rA,rB]:List RowD).getD 1 (0,0,0,[],[],0,0,0,false,())=rB:=rfl
 have hl:([rA,rB]:List RowD).length=2:=rfl
 have d0:decide (((2:Nat):Int)=2)=true:=by decide
 have d1:decide (([88]:List UInt8)=[88])=true:=by decide
 have d2:decide ((19893:Int)=19893)=true:=by decide
 have d3:decide ((2:Int)=2)=true:=by decide
 have d4:decide ((13312:Int)=13312)=true:=by decide
 have d5:decide ((50:Int)=50)=true:=by decide
 refine go0 (cons_ok rowRead1_ok (cons_ok rowsFind_ok nil_ok)) 9 ?_
 simp(maxSteps:=4000000)only[go_sem,reduceIte,reduceCtorEq,Z0,Z1,Z2,Z3,Z4,Z5,Z6,Z7,Z8,Z9,ZA,ZB,ZC,ZD,Tryz.f13,awake06,oneN,rowRead1,rowsFind]
 (repeat' first|apply And.intro|intro _)
 all_goals try first|contradiction|omega|exact trivial|(show _=txA;rfl)
 dsimp only
 have b1:rB.2.1=13312:=rfl
 have b2:rB.2.2.1=19893:=rfl
 have b3:rB.2.2.2.1=[88]:=rfl
 have b6:rB.2.2.2.2.2.2.1=2:=rfl
 have b8:rB.2.2.2.2.2.2.2.2.1=true:=rfl
 refine run_ok (Cs:=[rowRead1,rowsFind]) (stp:=[4]) (inl:=[]) (unr:=false) (cons_ok rowRead1_ok (cons_ok rowsFind_ok nil_ok)) 70 _ _ _ _ ?_
 simp(maxSteps:=4000000)only[go_sem,reduceIte,reduceCtorEq,Z0,Z1,Z2,Z3,Z4,Z5,Z6,Z7,Z8,Z9,ZA,ZB,ZC,ZD,gB,hl,d0,d1,d2,d3,b2,b3,b6,b8,oneN,rowRead1,rowsFind]
 (repeat' first|apply And.intro|intro _)
 all_goals try first|contradiction|omega|exact trivial
 refine go0 (cons_ok rowsFind_ok nil_ok) 40 ?_
 simp(maxSteps:=4000000)only[go_sem,reduceIte,reduceCtorEq,Z0,Z1,Z2,Z3,Z4,Z5,Z6,Z7,Z8,Z9,ZA,ZB,ZC,ZD,fv1,Option.getD_some,Option.isSome_some,oneN,rowsFind]
 (repeat' first|apply And.intro|intro _)
 all_goals try first|contradiction|omega|exact trivial
 refine OkQ.xcall rowRead1X_ok ([102],txB,()) rfl (.inl rfl) rfl (by trivial) rfl ⟨rfl,rfl⟩ ?_
 refine run_ok (Cs:=[rowsFind]) (stp:=[7]) (inl:=[]) (unr:=false) (cons_ok rowsFind_ok nil_ok) 30 _ _ _ _ ?_
 simp(maxSteps:=4000000)only[go_sem,reduceIte,reduceCtorEq,Z0,Z1,Z2,Z3,Z4,Z5,Z6,Z7,Z8,Z9,ZA,ZB,ZC,ZD,rowRead1X,oneN,rowsFind]
 (repeat' first|apply And.intro|intro _)
 all_goals try first|contradiction|omega|exact trivial
 refine go0 (cons_ok rowsFind_ok nil_ok) 11 ?_
 simp(maxSteps:=4000000)only[go_sem,reduceIte,reduceCtorEq,Z0,Z1,Z2,Z3,Z4,Z5,Z6,Z7,Z8,Z9,ZA,ZB,ZC,ZD,b1,d4,oneN,rowsFind]
 (repeat' first|apply And.intro|intro _)
 all_goals try first|contradiction|omega|exact trivial
 refine OkQ.asHit (o1:=2) (o2:=3) (off:=0) asAll.1 asAll.2 rfl (.inr ⟨_,_,rfl,by kernel_rfl⟩) rfl rfl rfl (by refine⟨?_,?_,?_⟩<;>first|trivial|exact⟨rfl,trivial⟩) rfl rfl ?_
 refine go0 (cons_ok rowsFind_ok nil_ok) 60 ?_
 simp(maxSteps:=4000000)only[go_sem,reduceIte,reduceCtorEq,Z0,Z1,Z2,Z3,Z4,Z5,Z6,Z7,Z8,Z9,ZA,ZB,ZC,ZD,oneN,d3,d5,awake06,rowsFind]
 (repeat' first|apply And.intro|intro _)
 all_goals first|contradiction|omega|rfl|trivial|fail
end Go.Proofs.YtcbmonndkjihkaaGreatDoor.Sx
namespace Go.Proofs.YtcbmonndkjihkaaGreatDoor.Sx
attribute [local irreducible] OkQ Ok
set_option linter.unusedSimpArgs false
set_option linter.unusedVariables false
end Go.Proofs.YtcbmonndkjihkaaGreatDoor.Sx
namespace Go.Proofs.YtcbmonndkjihkaaGreatDoor.Sx
attribute [local irreducible] OkQ Ok
set_option linter.unusedSimpArgs false
set_option linter.unusedVariables false
set_option maxRecDepth 8000
theorem hex_range{s:List UInt8}(h:hexE s=0):0≤hexV s∧hexV s≤1114111:=by
 cases hb:hexBad s
 case true=>rw[hexE,hb]at h;cases h
 unfold hexV
 rw[hb,cond_false]
 unfold hexBad at hb
 simp only[Bool.or_eq_false_iff,decide_eq_false_iff_not,List.any_eq_false,decide_eq_true_eq]at hb
 obtain⟨h1,h2,h3,h4,h5⟩:=hb
 have hd:∀j,j<s.length→0≤hexD (s.getD j 0):=fun j hj=>by
  rw[List.getD_eq_getElem?_getD,List.getElem?_eq_getElem hj]
  have:=h4 _ (List.getElem_mem hj)
  show 0≤hexD s[j]
  omega
 rw[hexTo_R s.length (by omega) hd]at h5 ⊢
 exact⟨(hexR_in s.length hd).1,by omega⟩
theorem rowE_hex{l:LnD}(h:rowE l=0):hexE (fld l 0)=0:=by
 unfold rowE at h
 repeat' split at h
 all_goals first|(exact absurd h (by decide))|skip
 rename_i hh _ _ _ _ _ _
 exact Decidable.not_not.1 hh
def upB:Int→List RowD→Prop
 |_,[]=>True
 |b,x::l=>b<x.2.1∧x.2.1≤x.2.2.1∧x.2.2.1≤1114111∧upB x.2.2.1 l
theorem up_app:∀(l:List RowD) (b:Int) (x:RowD),upB b l→(match l.getLast? with|some r=>r.2.2.1|none=>b)<x.2.1→x.2.1≤x.2.2.1→x.2.2.1≤1114111→upB b (l++[x])
 |[],b,x,_,h,h1,h2=>⟨h,h1,h2,trivial⟩
 |y::l,b,x,hu,h,h1,h2=>by
  refine⟨hu.1,hu.2.1,hu.2.2.1,up_app l _ x hu.2.2.2 ?_ h1 h2⟩
  rw[List.getLast?_cons]at h
  cases hl:l.getLast? with
  |none=>rw[hl]at h;exact h
  |some z=>rw[hl]at h;exact h
theorem up_last{l:List RowD}{x:RowD}(hu:upB (-1) l)(h:lastR l<x.2.1)(h1:x.2.1≤x.2.2.1)(h2:x.2.2.1≤1114111):upB (-1) (l++[x]):=up_app l _ x hu h h1 h2
def wUp(out:List RowD):Option WtD→Prop
 |none=>True
 |some w=>lastR out<w.1.2.1∧w.1.2.1≤1114111
theorem fold_up:∀(L:List LnD) (out:List RowD) (w:Option WtD),upB (-1) out→wUp out w→upB (-1) (rdFold L out w).2.2
 |[],out,none,hu,_=>by rw[rdFold];exact hu
 |[],out,some w,_,_=>by rw[rdFold];trivial
 |l::L,out,w,hu,hw=>by
  rw[rdFold]
  by_cases h1:skipL l=true
  ·rw[if_pos h1];exact fold_up L out w hu hw
  rw[if_neg h1]
  by_cases h2:stepE out w l≠0
  ·rw[if_pos h2];trivial
  rw[if_neg h2]
  have h2:stepE out w l=0:=Decidable.not_not.1 h2
  have hr:rowE l=0:=by
   unfold stepE at h2
   split at h2
   ·exact h2
   ·rename_i h
    exact Decidable.not_not.1 h
  have hx:=hex_range (rowE_hex hr)
  match w,hw with
  |some w,hw=>
   have hj:joinE w l (rowR l)=0:=by
    unfold stepE at h2
    rw[if_neg (by rw[hr];simp)]at h2
    exact h2
   unfold joinE at hj
   split at hj
   ·cases hj
   split at hj
   ·cases hj
   rename_i hlt
   have hlt:¬hexV (fld l 0)≤w.1.2.1:=hlt
   refine fold_up L _ _ (up_last hu ?_ ?_ ?_) trivial
   ·exact hw.1
   ·show w.1.2.1≤hexV (fld l 0)
    omega
   ·exact hx.2
  |none,_=>
   have hj:(if(halfV (fld l 1)).2.2=true then(61:Int)else if hexV (fld l 0)≤lastR out then 62 else 0)=0:=by
    unfold stepE at h2
    rw[if_neg (by rw[hr];simp)]at h2
    exact h2
   split at hj
   ·cases hj
   split at hj
   ·cases hj
   rename_i hlt
   by_cases h3:(halfV (fld l 1)).2.1=true
   ·have e1:stepO out none l=out:=if_pos h3
    have e2:stepW none l=some (rowR l,l.2.2.2.1,(halfV (fld l 1)).1):=if_pos h3
    rw[e1,e2]
    exact fold_up L _ _ hu ⟨by show lastR out<hexV (fld l 0);omega,hx.2⟩
   ·have e1:stepO out none l=out++[rowR l]:=if_neg h3
    have e2:stepW none l=none:=if_neg h3
    rw[e1,e2]
    refine fold_up L _ _ (up_last hu ?_ ?_ ?_) trivial
    ·show lastR out<hexV (fld l 0)
     omega
    ·exact Int.le_refl _
    ·exact hx.2
end Go.Proofs.YtcbmonndkjihkaaGreatDoor.Sx
namespace Go.Proofs.YtcbmonndkjihkaaGreatDoor.Sx
attribute [local irreducible] OkQ Ok
set_option linter.unusedSimpArgs false
set_option linter.unusedVariables false
set_option maxRecDepth 8000
def partsL:Nat→List (List UInt8)→List LnD
 |_,[]=>[]
 |no,s::L=>partsV (no:Int) s::partsL (no+1) L
theorem scL_good:∀(L:List (List UInt8)) (no:Nat) (out:List LnD),(∀s∈L,scanE s=0)→scL no L out=(0,0,out++partsL no L)
 |[],no,out,_=>by rw[scL,partsL,List.append_nil]
 |s::L,no,out,h=>by
  rw[scL,if_neg (by rw[h s (List.mem_cons_self ..)];simp),scL_good L (no+1) _ fun x hx=>h x (List.mem_cons_of_mem _ hx),partsL,List.append_assoc]
  rfl
theorem scL_zero:∀(L:List (List UInt8)) (no:Nat) (out:List LnD),(scL no L out).1=0→∀s∈L,scanE s=0
 |[],_,_,_,_,h=>by cases h
 |s::L,no,out,h,x,hx=>by
  rw[scL]at h
  split at h
  ·rename_i h1
   exact absurd h h1
  ·rename_i h1
   rcases List.mem_cons.1 hx with rfl|hx
   ·exact Decidable.not_not.1 h1
   ·exact scL_zero L _ _ h x hx
theorem parts_app:∀(X Y:List (List UInt8)) (no:Nat),partsL no (X++Y)=partsL no X++partsL (no+X.length) Y
 |[],Y,no=>rfl
 |s::X,Y,no=>by
  rw[List.cons_append,partsL,partsL,parts_app X Y (no+1),List.length_cons,show no+1+X.length=no+(X.length+1) by omega]
  rfl
theorem parts_two(no no':Int)(s:List UInt8):(partsV no s).2=(partsV no' s).2:=by
 unfold partsV
 repeat' split
 all_goals rfl
theorem parts_same:∀(L:List (List UInt8)) (no no':Nat),(partsL no L).map (fun l=>l.2)=(partsL no' L).map (fun l=>l.2)
 |[],_,_=>rfl
 |s::L,no,no'=>by
  rw[partsL,partsL,List.map_cons,List.map_cons,parts_same L (no+1) (no'+1),parts_two]
theorem fold_ext:∀(P:List LnD) (out:List RowD) (w:Option WtD) (R:List RowD),rdFold P out w=(0,0,R)→∃Z,R=out++Z
 |[],out,none,R,h=>by rw[rdFold]at h;cases h;exact⟨[],by simp⟩
 |[],out,some w,R,h=>by rw[rdFold]at h;cases h
 |l::P,out,w,R,h=>by
  rw[rdFold]at h
  split at h
  ·exact fold_ext P out w R h
  split at h
  ·rename_i h1
   exact absurd (congrArg Prod.fst h) h1
  obtain⟨Z,hZ⟩:=fold_ext P _ _ R h
  cases w with
  |some v=>
   have e:stepO out (some v) l=out++[joinR v (rowR l)]:=rfl
   rw[e]at hZ
   exact⟨_,by rw[hZ,List.append_assoc]⟩
  |none=>
   have e:stepO out none l=if(halfV (fld l 1)).2.1=true then out else out++[rowR l]:=rfl
   rw[e]at hZ
   split at hZ
   ·exact⟨Z,hZ⟩
   ·exact⟨_,by rw[hZ,List.append_assoc]⟩
theorem fold_head:∀(P:List LnD) (v:WtD) (R:List RowD),rdFold P [] (some v)=(0,0,R)→(R.getD 0 rowZ).2.1=v.1.2.1
 |[],v,R,h=>by rw[rdFold]at h;cases h
 |l::P,v,R,h=>by
  rw[rdFold]at h
  split at h
  ·exact fold_head P v R h
  split at h
  ·rename_i h1
   exact absurd (congrArg Prod.fst h) h1
  obtain⟨Z,hZ⟩:=fold_ext P _ _ R h
  have e:stepO [] (some v) l=[joinR v (rowR l)]:=rfl
  rw[e]at hZ
  rw[hZ]
  rfl
theorem fold_zero:∀(P:List LnD) (out:List RowD) (w:Option WtD),(rdFold P out w).1=0→(rdFold P out w).2.1=0
 |[],out,none,_=>by rw[rdFold]
 |[],out,some w,h=>by rw[rdFold]at h;cases h
 |l::P,out,w,h=>by
  rw[rdFold]at h ⊢
  split
  ·rename_i h1
   rw[if_pos h1]at h
   exact fold_zero P out w h
  ·rename_i h1
   rw[if_neg h1]at h
   split
   ·rename_i h2
    rw[if_pos h2]at h
    exact absurd h h2
   ·rename_i h2
    rw[if_neg h2]at h
    exact fold_zero P _ _ h
def wSame:Option WtD→Option WtD→Prop
 |none,none=>True
 |some a,some b=>a.2=b.2∧a.1.2=b.1.2
 |_,_=>False
theorem lastR_app{B o:List RowD}(h:o≠[]):lastR (B++o)=lastR o:=by
 unfold lastR
 rw[List.getLast?_append]
 cases hl:o.getLast? with
 |none=>exact absurd (List.getLast?_eq_none_iff.1 hl) h
 |some r=>rfl
theorem fold_behind:∀(P P':List LnD) (out o2:List RowD) (w w':Option WtD) (B R:List RowD),P.map (fun l=>l.2)=P'.map (fun l=>l.2)→out.map noLn=o2.map noLn→wSame w w'→rdFold P out w=(0,0,R)→(out=[]→lastR B<(R.getD 0 rowZ).2.1)→
 ∃o3,R.map noLn=o3.map noLn∧∀Q,rdFold (P'++Q) (B++o2) w'=rdFold Q (B++o3) none
 |[],P',out,o2,w,w',B,R,hP,ho,hw,hr,_=>by
  have hP':P'=[]:=by
   cases P' with
   |nil=>rfl
   |cons a b=>cases hP
  subst hP'
  match w,w',hw with
  |none,none,_=>
   rw[rdFold]at hr
   cases hr
   exact⟨o2,ho,fun Q=>rfl⟩
  |some a,some b,_=>rw[rdFold]at hr;cases hr
 |l::P,P',out,o2,w,w',B,R,hP,ho,hw,hr,hlow=>by
  match P',hP with
  |l'::P',hP=>
  rw[List.map_cons,List.map_cons]at hP
  obtain⟨hl,hP⟩:=List.cons.inj hP
  have hl:l.2=l'.2:=hl
  have hsk:skipL l'=skipL l:=by unfold skipL;rw[hl]
  rw[rdFold]at hr
  by_cases h1:skipL l=true
  ·rw[if_pos h1]at hr
   obtain⟨o3,h3,h4⟩:=fold_behind P P' out o2 w w' B R hP ho hw hr hlow
   exact⟨o3,h3,fun Q=>by rw[List.cons_append,rdFold,if_pos (by rw[hsk];exact h1)];exact h4 Q⟩
  rw[if_neg h1]at hr
  by_cases h2:stepE out w l≠0
  ·rw[if_pos h2]at hr
   exact absurd (congrArg Prod.fst hr) h2
  rw[if_neg h2]at hr
  have h2:stepE out w l=0:=Decidable.not_not.1 h2
  have hrE:rowE l'=rowE l:=by unfold rowE fld;rw[hl]
  have hrR:(rowR l').2=(rowR l).2:=by unfold rowR fld;rw[hl]
  have hf:∀k,fld l' k=fld l k:=fun k=>by unfold fld;rw[hl]
  have hE:stepE (B++o2) w' l'=0:=by
   match w,w',hw with
   |some ⟨⟨n,A⟩,F⟩,some ⟨⟨n',A'⟩,F'⟩,⟨e1,e2⟩=>
    have e1:F=F':=e1
    have e2:A=A':=e2
    subst e1 e2
    unfold stepE at h2 ⊢
    rw[hrE]
    unfold joinE at h2 ⊢
    rw[hrR,←hl]
    exact h2
   |none,none,_=>
    unfold stepE at h2 ⊢
    rw[hrE,hf,hf]
    by_cases hr0:rowE l≠0
    ·rw[if_pos hr0]at h2
     exact absurd h2 hr0
    rw[if_neg hr0]at h2 ⊢
    dsimp only at h2 ⊢
    split at h2
    ·cases h2
    rename_i h3
    split at h2
    ·cases h2
    rename_i h4
    rw[if_neg h3]
    refine if_neg ?_
    by_cases h0:out=[]
    ·have ho2:o2=[]:=by
      subst h0
      exact List.map_eq_nil_iff.1 ho.symm
     have hlow:=hlow h0
     subst h0 ho2
     have hh:(R.getD 0 rowZ).2.1=hexV (fld l 0):=by
      by_cases h5:(halfV (fld l 1)).2.1=true
      ·have e1:stepO [] none l=[]:=if_pos h5
       have e2:stepW none l=some (rowR l,l.2.2.2.1,(halfV (fld l 1)).1):=if_pos h5
       rw[e1,e2]at hr
       exact fold_head P _ R hr
      ·have e1:stepO [] none l=[rowR l]:=if_neg h5
       rw[e1]at hr
       obtain⟨Z,hZ⟩:=fold_ext P _ _ R hr
       rw[hZ]
       rfl
     rw[List.append_nil]
     omega
    ·have ho2:o2≠[]:=fun e=>h0 (by rw[e]at ho;exact List.map_eq_nil_iff.1 ho)
     rw[lastR_app ho2,last_no o2,←ho,←last_no]
     exact h4
  have hO:∃o4,stepO (B++o2) w' l'=B++o4∧(stepO out w l).map noLn=o4.map noLn:=by
   match w,w',hw with
   |some ⟨⟨n,A⟩,F⟩,some ⟨⟨n',A'⟩,F'⟩,⟨e1,e2⟩=>
    have e2:A=A':=e2
    subst e2
    refine⟨o2++[joinR ((n',A),F') (rowR l')],?_,?_⟩
    ·show(B++o2)++_=_
     rw[List.append_assoc]
    ·show(out++[_]).map noLn=_
     rw[List.map_append,List.map_append,ho]
     unfold joinR
     rw[hrR]
     all_goals rfl
   |none,none,_=>
    have q1:stepO (B++o2) none l'=if(halfV (fld l 1)).2.1=true then B++o2 else(B++o2)++[rowR l']:=by rw[←hf 1];rfl
    have q2:stepO out none l=if(halfV (fld l 1)).2.1=true then out else out++[rowR l]:=rfl
    rw[q1,q2]
    split
    ·exact⟨o2,rfl,ho⟩
    ·refine⟨o2++[rowR l'],by rw[List.append_assoc],?_⟩
     rw[List.map_append,List.map_append,ho,List.map_cons,List.map_cons]
     unfold noLn
     rw[hrR]
     all_goals rfl
  have hW:wSame (stepW w l) (stepW w' l'):=by
   match w,w',hw with
   |some _,some _,_=>trivial
   |none,none,_=>
    have q1:stepW none l'=if(halfV (fld l 1)).2.1=true then some (rowR l',l'.2.2.2.1,(halfV (fld l' 1)).1)else none:=by rw[←hf 1];rfl
    have q2:stepW none l=if(halfV (fld l 1)).2.1=true then some (rowR l,l.2.2.2.1,(halfV (fld l 1)).1)else none:=rfl
    rw[q1,q2]
    split
    ·exact⟨by rw[hf,←hl],hrR.symm⟩
    ·trivial
  obtain⟨o4,e4,e5⟩:=hO
  obtain⟨o3,h3,h4⟩:=fold_behind P P' _ o4 _ _ B R hP e5 hW hr (fun h=>hlow (by
   obtain⟨Z,hZ⟩:∃Z,stepO out w l=out++Z:=by
    cases w with
    |some v=>exact⟨_,rfl⟩
    |none=>
     have q2:stepO out none l=if(halfV (fld l 1)).2.1=true then out else out++[rowR l]:=rfl
     rw[q2]
     split
     ·exact⟨[],by simp⟩
     ·exact⟨_,rfl⟩
   rw[hZ]at h
   exact(List.append_eq_nil_iff.1 h).1))
  refine⟨o3,h3,fun Q=>?_⟩
  rw[List.cons_append,rdFold,if_neg (by rw[hsk];exact h1),if_neg (by rw[hE];simp),e4]
  exact h4 Q
theorem hxD_in(k:Nat):(hxD k).toNat<239:=by
 unfold hxD
 rcases Nat.lt_or_ge k 16 with h|h
 ·have key:∀j,j<16→(([48,49,50,51,52,53,54,55,56,57,65,66,67,68,69,70]:List UInt8).getD j 0).toNat<239:=by decide
  exact key k h
 ·rw[List.getD_eq_getElem?_getD,List.getElem?_eq_none (by simpa using h)]
  decide
theorem hxTo_in(x:Nat):∀k,∀b∈hxTo x k,b.toNat<239
 |0,_,h=>by cases h
 |k+1,b,h=>by
  rw[hxTo]at h
  rcases List.mem_append.1 h with h|h
  ·exact hxTo_in x k b h
  ·rw[List.mem_singleton.1 h];exact hxD_in _
theorem bom_head{b:UInt8}{s:List UInt8}(h:b.toNat<239):bomN (b::s)=0:=by
 unfold bomN
 refine if_neg ?_
 intro hq
 obtain⟨t,ht⟩:=List.isPrefixOf_iff_prefix.1 hq
 have:b=239:=(List.cons.inj ht).1.symm
 rw[this]at h
 revert h
 decide
theorem line_bom(r:RowD)(name:List UInt8)(x:Int)(s:List UInt8):bomN (lineR r name x++s)=0:=by
 rw[lineR_cat,List.append_assoc]
 unfold showV
 split
 ·cases hq:(hxTo x.toNat (hxN x.toNat)).reverse with
  |nil=>exact bom_head (by decide)
  |cons b l=>
   refine bom_head (hxTo_in x.toNat (hxN x.toNat) b ?_)
   rw[←List.mem_reverse,hq]
   exact List.mem_cons_self ..
 ·exact bom_head (by decide)
theorem one_bom(r:RowD)(s:List UInt8):bomN (oneV r++s)=0:=by
 unfold oneV
 split
 ·exact line_bom _ _ _ _
 ·rw[List.append_assoc]
  exact line_bom _ _ _ _
theorem line_last(r:RowD)(name:List UInt8)(x:Int):(lineR r name x).getLast? =some 10:=by
 unfold lineR
 rw[List.getLast?_append]
 rfl
theorem one_last(r:RowD):(oneV r).getLast? =some 10:=by
 unfold oneV
 split
 ·exact line_last _ _ _
 ·rw[List.getLast?_append,line_last]
  rfl
theorem right_lines{r:RowD}(h:rightB r=true):(∀s∈lnS (oneV r),scanE s=0)∧∃R,rdFold (partsL 1 (lnS (oneV r))) [] none=(0,0,R)∧R.map noLn=[noLn r]:=by
 unfold rightB at h
 rw[Bool.and_eq_true,decide_eq_true_eq,decide_eq_true_eq]at h
 obtain⟨h1,h2⟩:=h
 have hb:bomN (oneV r)=0:=by have:=one_bom r [];rwa [List.append_nil]at this
 rw[rowsV_eq,hb,List.drop_zero]at h1 h2
 have hz:(scL 1 (lnS (oneV r)) []).1=0:=by
  unfold rowsOf at h1
  split at h1
  ·exact h1
  ·rename_i h3
   exact Decidable.not_not.1 h3
 have hs:=scL_zero _ _ _ hz
 have hg:=scL_good (lnS (oneV r)) 1 [] hs
 rw[hg]at h1 h2
 unfold rowsOf at h1 h2
 rw[if_neg (by simp)]at h1 h2
 dsimp only at h1 h2
 rw[List.nil_append]at h1 h2
 refine⟨hs,_,?_,h2⟩
 refine Prod.ext h1 (Prod.ext ?_ rfl)
 exact fold_zero _ _ _ h1
theorem map_single{l:List RowD}{r:RowD}(h:l.map noLn=[noLn r]):∃x,l=[x]∧x.2=r.2:=by
 cases l with
 |nil=>cases h
 |cons x l=>
  rw[List.map_cons]at h
  obtain⟨h1,h2⟩:=List.cons.inj h
  have h3:=congrArg (fun y:RowD=>y.2) h1
  exact⟨x,by rw[List.map_eq_nil_iff.1 h2],h3⟩
theorem back_rows:∀(l:List RowD) (p:Option Int) (B:List RowD) (no:Nat),chkR p l=0→(p=none→B=[])→(∀b,p=some b→lastR B=b)→
 (∀s∈lnS (l.map oneV).flatten,scanE s=0)∧∃l3,rdFold (partsL no (lnS (l.map oneV).flatten)) B none=(0,0,B++l3)∧l3.map noLn=l.map noLn
 |[],p,B,no,_,_,_=>by
  rw[List.map_nil,List.flatten_nil,lnS_nil]
  refine⟨fun s h=>(by cases h),[],?_,rfl⟩
  rw[partsL,rdFold,List.append_nil]
 |r::l,p,B,no,hc,hn,hsome=>by
  rw[chkR]at hc
  split at hc
  ·cases hc
  split at hc
  ·cases hc
  rename_i h1 h2
  have hr:rightB r=true:=by simpa using h1
  obtain⟨hs,R,hR,hm⟩:=right_lines hr
  obtain⟨x,rfl,hx⟩:=map_single hm
  have hup:=fold_up (partsL 1 (lnS (oneV r))) [] none trivial trivial
  rw[hR]at hup
  have hx1:x.2.1=r.2.1:=congrArg (fun y=>y.1) hx
  have hlow:lastR B<x.2.1:=by
   rw[hx1]
   cases p with
   |none=>
    rw[hn rfl]
    have:=hup.1
    rw[hx1]at this
    exact this
   |some b=>
    rw[hsome b rfl]
    exact Int.not_le.1 fun h=>h2 ⟨b,rfl,h⟩
  obtain⟨o3,ho,hq⟩:=fold_behind (partsL 1 (lnS (oneV r))) (partsL no (lnS (oneV r))) [] [] none none B [x] (parts_same _ _ _) rfl trivial hR (fun _=>hlow)
  obtain⟨y,rfl,hy⟩:=map_single (ho.symm.trans hm)
  have hyl:lastR (B++[y])=r.2.2.1:=by
   rw[lastR_app (by simp)]
   exact congrArg (fun z=>z.2.1) hy
  obtain⟨i1,l4,i2,i3⟩:=back_rows l (some r.2.2.1) (B++[y]) (no+(lnS (oneV r)).length) hc (fun h=>by cases h) (fun b hb=>by cases hb;exact hyl)
  have hl:lnS ((r::l).map oneV).flatten=lnS (oneV r)++lnS (l.map oneV).flatten:=by
   rw[List.map_cons,List.flatten_cons]
   exact lnS_app _ _ _ (Nat.le_refl _) (.inr (one_last r))
  rw[hl]
  refine⟨fun s hs'=>(List.mem_append.1 hs').elim (hs s) (i1 s),y::l4,?_,?_⟩
  ·have h:=hq (partsL (no+(lnS (oneV r)).length) (lnS (l.map oneV).flatten))
   rw[List.append_nil]at h
   rw[parts_app,h,i2,List.append_assoc]
   rfl
  ·rw[List.map_cons,List.map_cons,i3]
   unfold noLn
   rw[hy]
theorem rows_back{l:List RowD}(h:chkR none l=0):(rowsV (l.map oneV).flatten).1=0∧(rowsV (l.map oneV).flatten).2.2.map noLn=l.map noLn:=by
 have hb:bomN (l.map oneV).flatten=0:=by
  cases l with
  |nil=>rfl
  |cons r l=>rw[List.map_cons,List.flatten_cons];exact one_bom r _
 obtain⟨h1,l3,h2,h3⟩:=back_rows l none [] 1 h (fun _=>rfl) (fun b hb=>by cases hb)
 rw[rowsV_eq,hb,List.drop_zero,scL_good _ 1 [] h1]
 unfold rowsOf
 rw[if_neg (by simp)]
 dsimp only
 rw[List.nil_append,h2]
 exact⟨rfl,h3⟩
theorem line_short{r:RowD}{name:List UInt8}{x:Int}(hc:IntKind.u8.has r.2.2.2.2.2.1):(lineR r name x).length≤name.length+r.2.2.2.2.1.length+160:=by
 have e1:=show_len x
 have e2:(twinV r).length≤6:=by
  unfold twinV
  split
  ·simp
  ·exact show_len _
 have e3:(flagV r).length=1:=by unfold flagV;split<;>rfl
 have e4:(clsL r.2.2.2.2.2.2.1).length≤100:=nmV_len r.2.2.2.2.2.2.1
 have hc':0≤r.2.2.2.2.2.1∧r.2.2.2.2.2.1≤255:=by simpa[IntKind.has,IntKind.min,IntKind.max,IntKind.signed,IntKind.bits]using hc
 have e5:=itoa_len (n:=r.2.2.2.2.2.1) (by omega) (by omega)
 rw[lineR_cat]
 simp only[List.length_append,List.length_cons,List.length_nil]
 omega
theorem one_short{r:RowD}(hc:IntKind.u8.has r.2.2.2.2.2.1):(oneV r).length≤40*tRow.bulk r:=by
 have h2:tRow.bulk r=1+(1+(1+(r.2.2.2.1.length+1+(r.2.2.2.2.1.length+1+(1+(1+(1+(1+0)))))))):=rfl
 rw[h2]
 unfold oneV
 split
 ·have:=line_short (r:=r) (name:=r.2.2.2.1) (x:=r.2.1) hc
  omega
 ·have h3:=line_short (r:=r) (name:=[60]++r.2.2.2.1++fstS) (x:=r.2.1) hc
  have h4:=line_short (r:=r) (name:=[60]++r.2.2.2.1++lstS) (x:=r.2.2.1) hc
  have h5:([60]++r.2.2.2.1++fstS).length=r.2.2.2.1.length+9:=by simp[fstS]
  have h6:([60]++r.2.2.2.1++lstS).length=r.2.2.2.1.length+8:=by simp[lstS]
  rw[List.length_append]
  omega
theorem flat_short:∀ {l:List RowD},(∀r∈l,tRow.wf r)→((l.map oneV).flatten).length≤40*(l.map tRow.bulk).sum
 |[],_=>by simp
 |r::l,hw=>by
  have h1:=one_short (hw r (List.mem_cons_self ..)).2.2.2.2.2.1
  have h2:=flat_short (l:=l) (fun x hx=>hw x (List.mem_cons_of_mem _ hx))
  rw[List.map_cons,List.map_cons,List.flatten_cons,List.sum_cons,List.length_append]
  omega
end Go.Proofs.YtcbmonndkjihkaaGreatDoor.Sx
namespace Go.Proofs.YtcbmonndkjihkaaGreatDoor.Sx
attribute [local irreducible] OkQ Ok
set_option linter.unusedSimpArgs false
set_option linter.unusedVariables false
open Nat renaming reduceEqDiff→Z0,reduceBEq→Z1,reduceAdd→Z2,reduceSub→Z3,reduceMul→Z4,reduceLeDiff→Z5
open Int renaming reduceEq→Z6,reduceLE→Z7,reduceLT→Z8,reduceNeg→Z9,reduceToNat→ZA,reduceAdd→ZB,reduceSub→ZC,reduceMul→ZD
set_option maxRecDepth 8000
theorem sum_mem{f:RowD→Nat}:∀ {l:List RowD} {x:RowD},x∈l→f x≤(l.map f).sum
 |y::l,x,h=>by
  rw[List.map_cons,List.sum_cons]
  rcases List.mem_cons.1 h with rfl|h
  ·omega
  ·have:=sum_mem (f:=f) h
   omega
theorem rows_small{l:List RowD}(h:(l.map tRow.bulk).sum≤1048576):∀r∈l,smallR r:=fun r hr=>by
 have h1:=sum_mem (f:=tRow.bulk) hr
 have h2:1+(1+(1+(r.2.2.2.1.length+1+(r.2.2.2.2.1.length+1+(1+(1+(1+(1+0))))))))≤1048576:=Nat.le_trans h1 h
 exact⟨by omega,by omega⟩
attribute [local irreducible] smallR
end Go.Proofs.YtcbmonndkjihkaaGreatDoor.Sx
namespace Go.Proofs.YtcbmonndkjihkaaGreatDoor.Sx
attribute [local irreducible] OkQ Ok
set_option linter.unusedSimpArgs false
set_option linter.unusedVariables false
theorem kTk0:∀c∈[rowRead,rowsPrint,rowsCheck,sameBut,awake06],c.Ok Tryz.prog:=(cons_ok rowRead_ok (cons_ok rowsPrint_ok (cons_ok rowsCheck_ok (cons_ok sameBut_ok (cons_ok awake06_ok nil_ok)))))
open Nat renaming reduceEqDiff→Z0,reduceBEq→Z1,reduceAdd→Z2,reduceSub→Z3,reduceMul→Z4,reduceLeDiff→Z5
open Int renaming reduceEq→Z6,reduceLE→Z7,reduceLT→Z8,reduceNeg→Z9,reduceToNat→ZA,reduceAdd→ZB,reduceSub→ZC,reduceMul→ZD
set_option maxRecDepth 8000
attribute [local irreducible] smallR
noncomputable def lawRowsBack:Con:=⟨8,[(false,tRows)],[(false,.bool)],fun x=>(tyL [(false,tRows)]).small x∧(tyL [(false,tRows)]).bulk x≤1048576,fun _=>(true,()),false⟩
set_option maxHeartbeats 2000000 in
theorem lawRowsBack_ok:lawRowsBack.Ok Tryz.prog:=by
 refine con_q Tryz.func8 rfl (by decide) (fun x hx hp=>go0 kTk0 0 ?_) (by decide)
 obtain⟨(xs:List RowD),⟨⟩⟩:=x
 have hbu:(xs.map tRow.bulk).sum+0≤1048576:=hp.2
 have hwf:∀v∈xs,tRow.wf v:=hx.1.2
 clear hx hp
 have hsm:=rows_small (l:=xs) (by omega)
 have hfl:=flat_short hwf
 have hfl2:((xs.map oneV).flatten).length≤140737488355328:=by omega
 by_cases hE:chkR none xs=0
 case neg=>
  have dE:decide (chkR none xs=0)=false:=decide_eq_false hE
  have hv:printV xs=[]:=if_neg hE
  have e2:decide (chkR none xs=chkR none xs)=true:=decide_eq_true rfl
  refine go0 kTk0 100 ?_
  simp(maxSteps:=4000000)only[go_sem,reduceIte,reduceCtorEq,Z0,Z1,Z2,Z3,Z4,Z5,Z6,Z7,Z8,Z9,ZA,ZB,ZC,ZD,Tryz.f8,lawRowsBack,dE,hv,e2,rowRead,rowsPrint,rowsCheck,sameBut,awake06]
  (repeat' first|apply And.intro|intro _)
  all_goals first|contradiction|omega|exact hsm _ ‹_› |exact hsm|exact hfl2|rfl|trivial|fail
 have dE:decide (chkR none xs=0)=true:=decide_eq_true hE
 have hv:printV xs=(xs.map oneV).flatten:=if_pos hE
 obtain⟨h1,h2⟩:=rows_back hE
 obtain⟨t,ht⟩:∃t,t=(xs.map oneV).flatten:=⟨_,rfl⟩
 rw[←ht]at hv h1 h2 hfl
 have d2:decide ((rowsV t).2.2.map noLn=xs.map noLn)=true:=decide_eq_true h2
 refine go0 kTk0 100 ?_
 simp(maxSteps:=4000000)only[go_sem,reduceIte,reduceCtorEq,Z0,Z1,Z2,Z3,Z4,Z5,Z6,Z7,Z8,Z9,ZA,ZB,ZC,ZD,Tryz.f8,lawRowsBack,dE,hv,d2,oneN,rowRead,rowsPrint,rowsCheck,sameBut,awake06]
 (repeat' first|apply And.intro|intro _)
 all_goals first|contradiction|omega|exact hsm _ ‹_› |exact hsm|exact hfl2|exact h1|(show t.length≤_;omega)|rfl|trivial|fail
end Go.Proofs.YtcbmonndkjihkaaGreatDoor.Sx
namespace Go.Proofs.YtcbmonndkjihkaaGreatDoor.Sx
set_option linter.unusedSimpArgs false
set_option linter.unusedVariables false
noncomputable section
open Go.ChangeShapes Go.WideShapes Go.ChangeAt Go.RowKit
theorem law_liftedUX{H:Type}{enc:TypeId×Value→H}{C:Checked}{os:Os}{f:FuncId}{fn:Func}{s:ChangeSpec}{conds:List PathCond}{apart fresh handsOn again:Bool}{pl:List (Bool×Ty)}{tb:TypeId}{F:Stop.Interp}
 {laid:List (String×DataW Unit)} (hgw:∀W:World,laidMetH C.prog laid W→W.ShapedOpen C.prog→GW W) (hcon:(lawConU f pl).Ok C.prog)
 (hl:laidOutB C.prog=true) (hvs:s.vars=[]) (hs:∀ds:List (DataW H),ds.length=pl.length→s.fn H ds= {results:=[.lit (.bool true)],args:=ds}) (hp:ParOk C.prog fn.params.toList pl)
 (hr:fn.resultTypes= #[tb]) (htb:C.prog.underlying tb=some .bool)
 (own:ownKnob C.prog.godebug=none) (started:os.Started) (noInit:C.prog.inits.idxOf? f=none) (hfn:C.prog.funcs[f]? =some fn)
 (hsF:((Rows.OpenSpec.upto s).at F)=s)
 (witness:∃(w:World) (tape:Tape) (i:Input),w.os=os∧(w.forCall tape i).Shaped C.prog∧i.vars=[]∧Input.okWide C.prog (w.forCall tape i) .any w.heap.size f i∧
   (Rows.OpenSpec.upto s).preRow enc C.prog fn conds apart laid (w.forCall tape i).memory i.args∧Assume.holds {} C.prog (lone (Frame.enter C.prog f i.args .normal) [] (w.forCall tape i))):
 ReturnsInHanded {} C os f .any ((Rows.OpenSpec.upto s).preRow enc C.prog fn conds apart laid) (((Rows.OpenSpec.upto s).at F).post enc C.prog fn apart fresh handsOn again):=by
 refine returnsInHanded_of_row own started noInit hfn witness ?_
 intro W base args ds gs before hval hW _ hk hsz hL hsh _
 rw[hsF]
 have hW:DataW.Whole enc C.prog fn.params.toList s.vars apart W args.toList ds gs before:=hW
 obtain⟨p,q,hA,hV,hbf,hz,hn⟩:=hW
 have hV':=hV
 rw[hvs]at hV'
 obtain⟨rfl,rfl⟩:=trodVars_none hV'
 obtain⟨x,hx,hxs,hxb⟩:=args_rd (base:=base) pl fn.params.toList args.toList ds p hp hA (fun j t v a b=>hval j t v (by simpa using a) (by simpa using b)) (fun k hk=>by
  have:=List.all_eq_true.1 hsz k
  have hvt:(Rows.OpenSpec.upto s).bare.plain.varTypes C.prog=[]:=by
   simp[DataSpec.varTypes,OpenSpec.bare,ChangeSpec.plain,Rows.OpenSpec.upto,OpenSpec.ofChange,hvs]
  rw[hvt]at this
  simpa using this (by simpa using hk))
 have hwf:=hx.wf
 have hb:Rows.uptoBulkAll (ds++[])≤1048576:=of_decide_eq_true (hk Rows.uptoSmall rfl)
 rw[List.append_nil]at hb
 have:=hcon.calls (fun _=>False) W args.toList x (fun _ h=>h.elim) ⟨hgw W hL hsh,fun _ _ h=>h⟩ hx hwf ⟨hxs,Nat.le_trans hxb hb⟩ 0
 unfold Con.Post at this
 simp only[lawConU]at this
 rw[Array.toArray_toList]at this
 refine this.mono fun e W' hpost=>?_
 obtain⟨v,rfl,hb,_,loc,hv,_⟩:=hpost
 have hv':v= .bool true:=hv
 subst hv'
 exact⟨_,rfl,law_post hl hvs hs hp hr htb ⟨p,[],hA,hV,hbf,hz,hn⟩ hb⟩
end
end Go.Proofs.YtcbmonndkjihkaaGreatDoor.Sx
namespace Go.Proofs.YtcbmonndkjihkaaGreatDoor.Sx
set_option linter.unusedSimpArgs false
set_option linter.unusedVariables false
theorem laidMet_layOver{P:Program}{w0:World}{laid:List (String×DataW Unit)}(args:Array Value)(hf:w0.layFits P laid []=true)(hi:w0.layIfaces P laid (w0.layVars P laid)=true):
 laidMet P laid ((w0.layVars P laid).forCall (fun _ _=>0) ⟨#[],args,[]⟩).memory:=by
 have e1:(laid.filter fun x=>(laid.map (·.1)).contains x.1)=laid:=List.filter_eq_self.2 fun x hx=>List.contains_iff_mem.2 (List.mem_map.2 ⟨x,hx,rfl⟩)
 have e2:(laid.filter fun x=>!(laid.map (·.1)).contains x.1)=[]:=List.filter_eq_nil_iff.2 fun x hx=>by rw[List.contains_iff_mem.2 (List.mem_map.2 ⟨x,hx,rfl⟩)];simp
 have h:laidMet P laid (w0.layVars P laid):=laidMet_layVars (w0:=w0) (laid.map (·.1)) [] (by rw[e1]) (by rw[e1];exact hf) (by rw[e1];exact hi) (by rw[e2];exact LaidIn.none)
 exact h.of_heap (by simp[World.memory,World.forCall,Input.heap])
end Go.Proofs.YtcbmonndkjihkaaGreatDoor.Sx
namespace Go.Proofs.YtcbmonndkjihkaaGreatDoor.Sx
attribute [local irreducible] OkQ Ok
set_option linter.unusedSimpArgs false
set_option linter.unusedVariables false
open Go.RowKit
def laidL:List (String×DataW Unit):=[("math/bits.deBruijn32tab",Rows.laid_math_bits_deBruijn32tab),("math/bits.deBruijn64tab",Rows.laid_math_bits_deBruijn64tab),("internal/strconv.uint64pow10",Rows.laid_internal_strconv_uint64pow10),("unicode/utf8.acceptRanges",Rows.laid_unicode_utf8_acceptRanges),("errors.errorType",Rows.laid_errors_errorType),("strconv.ErrRange",Rows.laid_strconv_ErrRange),("strconv.ErrSyntax",Rows.laid_strconv_ErrSyntax),("unicode/utf8.first",Rows.laid_unicode_utf8_first)]
def laidP:List (String×DataW Unit):=[("math/bits.deBruijn32tab",Rows.laid_math_bits_deBruijn32tab),("math/bits.deBruijn64tab",Rows.laid_math_bits_deBruijn64tab),("internal/strconv.uint64pow10",Rows.laid_internal_strconv_uint64pow10),("unicode/utf8.acceptRanges",Rows.laid_unicode_utf8_acceptRanges),("strconv.ErrRange",Rows.laid_strconv_ErrRange),("strconv.ErrSyntax",Rows.laid_strconv_ErrSyntax),("unicode/utf8.first",Rows.laid_unicode_utf8_first)]
theorem laid_et:Tryz.prog.globalNamed "errors.errorType" =some 0:=by kernel_rfl
theorem laid_rt:(Tryz.prog.cutTypes.find? (·.1== "internal/reflectlite.rtype")).map (·.2)=some 137:=by kernel_rfl
theorem laid_size:∃n,Tryz.prog.types.size=n∧((List.range n).filter fun t=>Tryz.prog.rowNamed t [101,114,114,111,114])=[39]:=⟨_,rfl,by kernel_rfl⟩
theorem laid_GWet{W:World}(h:laidMetH Tryz.prog laidL W):W.cell? ⟨0,0,none⟩=some (.iface 137 (.agg #[.pointer (some ⟨9,39,none⟩)])):=by
 have h':laidMet Tryz.prog laidP W∧handlesMet Tryz.prog [("errors.errorType",Rows.laid_errors_errorType)] W:=h
 obtain⟨name,u,ty,e1,e2,e3,e4,e5⟩:=h'.2 _ (List.mem_singleton.2 rfl)
 have en:name=[101,114,114,111,114]:=(Option.some.inj e1).symm
 subst en
 obtain rfl:=Option.some.inj (laid_rt.symm.trans e2)
 obtain⟨n,hn,hone⟩:=laid_size
 have hm:ty∈(List.range n).filter fun t=>Tryz.prog.rowNamed t [101,114,114,111,114]:=List.mem_filter.2 ⟨List.mem_range.2 (by rw[←hn];exact e3),e4⟩
 rw[hone]at hm
 obtain rfl:=List.mem_singleton.1 hm
 have hh:typeHandle Tryz.prog 39= .pointer (some ⟨9,39,none⟩):=by kernel_rfl
 rw[hh]at e5
 simpa using World.var?_cell laid_et e5 0
theorem laid_plain{W:World}(h:laidMetH Tryz.prog laidL W):laidMet Tryz.prog laidP W:=(show laidMet Tryz.prog laidP W∧handlesMet Tryz.prog [("errors.errorType",Rows.laid_errors_errorType)] W from h).1
theorem laid_pow:(Rows.laid_internal_strconv_uint64pow10:DataW Unit)=Lib.tabData .u64 Lib.pow10Tab:=by rfl
theorem laid_gn:Tryz.prog.globalNamed "internal/strconv.uint64pow10" =some 4:=by kernel_rfl
theorem laid_GWpow{W:World}(h:laidMet Tryz.prog laidP W):∃T fz,W.heap[4]? =some (.cells (Lib.pow10Tab.map fun z=>Value.int .u64 z).toArray T fz):=by
 have h1:laidMet Tryz.prog (("internal/strconv.uint64pow10",Rows.laid_internal_strconv_uint64pow10)::[("unicode/utf8.acceptRanges",Rows.laid_unicode_utf8_acceptRanges),("strconv.ErrRange",Rows.laid_strconv_ErrRange),("strconv.ErrSyntax",Rows.laid_strconv_ErrSyntax),("unicode/utf8.first",Rows.laid_unicode_utf8_first)]) W:=h.tail.tail
 rw[laid_pow]at h1
 have ht:=Lib.tabIs_of_head (g:=4) laid_gn (t:=235) (by kernel_rfl) (n:=20) (e:=212) (by kernel_rfl) (by kernel_rfl) (by kernel_rfl) (by kernel_rfl) h1
 unfold Lib.TabIs World.var? at ht
 rw[laid_gn]at ht
 simp only[Option.bind_some]at ht
 split at ht
 ·rename_i cs T fz hh
  cases ht
  exact⟨T,fz,hh⟩
 ·cases ht
theorem laid_gnsyn:Tryz.prog.globalNamed "strconv.ErrSyntax" =some 1:=by kernel_rfl
theorem laid_GWsyn{W:World}(h:laidMet Tryz.prog laidP W):∃t u,W.cell? ⟨1,0,none⟩=some (.iface t u):=by
 have h1:laidMet Tryz.prog (("strconv.ErrSyntax",Rows.laid_strconv_ErrSyntax)::[("unicode/utf8.first",Rows.laid_unicode_utf8_first)]) W:=h.tail.tail.tail.tail.tail
 obtain⟨ps,⟨g0,t0,cs0,f0,p0,q0,hg0,ht0,hv0,hd0,_,e0⟩,_,hrows⟩:=h1
 obtain rfl:=Option.some.inj (laid_gnsyn.symm.trans hg0)
 obtain rfl:=Option.some.inj ((show(Tryz.prog.globals[1]?).map (·.type)=some 39 by kernel_rfl).symm.trans ht0)
 obtain⟨l0⟩:=cs0
 obtain⟨_,t,u,rfl,_⟩:=iface_of_trod Tryz.underlying39 hd0
 exact⟨t,u,by simpa using World.var?_cell laid_gnsyn hv0 0⟩
theorem laid_gnrng:Tryz.prog.globalNamed "strconv.ErrRange" =some 2:=by kernel_rfl
theorem laid_GWrng{W:World}(h:laidMet Tryz.prog laidP W):∃t u,W.cell? ⟨2,0,none⟩=some (.iface t u):=by
 have h1:laidMet Tryz.prog (("strconv.ErrRange",Rows.laid_strconv_ErrRange)::[("strconv.ErrSyntax",Rows.laid_strconv_ErrSyntax),("unicode/utf8.first",Rows.laid_unicode_utf8_first)]) W:=h.tail.tail.tail.tail
 obtain⟨ps,⟨g0,t0,cs0,f0,p0,q0,hg0,ht0,hv0,hd0,_,e0⟩,_,hrows⟩:=h1
 obtain rfl:=Option.some.inj (laid_gnrng.symm.trans hg0)
 obtain rfl:=Option.some.inj ((show(Tryz.prog.globals[2]?).map (·.type)=some 39 by kernel_rfl).symm.trans ht0)
 obtain⟨l0⟩:=cs0
 obtain⟨_,t,u,rfl,_⟩:=iface_of_trod Tryz.underlying39 hd0
 exact⟨t,u,by simpa using World.var?_cell laid_gnrng hv0 0⟩
theorem laid_GWmx{W:World}(h:W.ShapedOpen Tryz.prog):∃m,W.cell? ⟨3,0,none⟩=some (.int .i64 m):=
 Go.Proofs.cell_of_shapedOpen_int (t:=3) (zero:= #[.int .i64 0]) h (by decide+kernel) (by kernel_rfl) rfl (by kernel_rfl) (by kernel_rfl) (by kernel_rfl)
theorem laid_GW{W:World}(h0:laidMetH Tryz.prog laidL W)(hs:W.ShapedOpen Tryz.prog):GW W:=
 have hp:=laid_plain h0
 {et:=laid_GWet h0,
  pow:=laid_GWpow hp,
  syn:=laid_GWsyn hp,
  rng:=laid_GWrng hp,
  mx:=laid_GWmx hs}
noncomputable def laidW0(os:Os):World:=
 let w0:=World.holding Tryz.prog os ⟨#[],#[],[]⟩
 {w0 with heap:=w0.heap.modify 0 fun
   | .cells _ t frozen=> .cells #[.iface 137 (.agg #[.pointer (some ⟨9,39,none⟩)])] t frozen
   |o=>o}
noncomputable def laidWorld(os:Os):World:=(laidW0 os).layVars Tryz.prog laidP
theorem laidWorld_os(os:Os):(laidWorld os).os=os:=World.layVars_os _ _ _
set_option maxRecDepth 100000 in
theorem laidWorld_met(os:Os)(args:Array Value):laidMetH Tryz.prog laidL ((laidWorld os).forCall (fun _ _=>0) ⟨#[],args,[]⟩).memory:=
 laidMetH_of_parts (show laidMet Tryz.prog laidP _ from laidMet_layOver args (by kernel_rfl) (by kernel_rfl)) (by kernel_rfl)
end Go.Proofs.YtcbmonndkjihkaaGreatDoor.Sx
namespace Go.Proofs.YtcbmonndkjihkaaGreatDoor.RowsBack
set_option linter.unusedSimpArgs false
set_option linter.unusedVariables false
open Go.ChangeShapes Go.WideShapes Go.ChangeAt Go.RowKit Go.Proofs.YtcbmonndkjihkaaGreatDoor.Sx
theorem own:ownKnob Tryz.prog.godebug=none:=by kernel_rfl
theorem laidOut:laidOutB Tryz.prog=true:=by kernel_rfl
theorem reads(os:Os){H:Type}(enc:TypeId×Value→H):∃places,DataW.whole enc Tryz.prog ((laidWorld os).forCall (fun _ _=>0) ⟨#[],#[.slice none 0 0],[]⟩).memory Tryz.f8.params.toList Rows.rowsBackSpec.vars false #[.slice none 0 0].toList 8=some ([.nil],[],places):=
 ⟨[],by kernel_rfl⟩
set_option maxRecDepth 100000 in
theorem lifted(os:Os)(started:os.Started)(H:Type)(enc:TypeId×Value→H)(F:Stop.Interp):
 ReturnsInHanded {} Tryz.checked os 8 .any ((Rows.OpenSpec.upto Rows.rowsBackSpec).preRow enc Tryz.prog Tryz.f8 Rows.rowsBackUptoRow.domain false Rows.rowsBackUptoRow.laid) (((Rows.OpenSpec.upto Rows.rowsBackSpec).at F).post enc Tryz.prog Tryz.f8 false true false false):=by
 obtain⟨places,hx⟩:=reads os enc
 exact law_liftedUX (C:=Tryz.checked) (pl:=[(false,tRows)]) (tb:=4) (laid:=Rows.rowsBackUptoRow.laid) (fun _ h hs=>laid_GW h hs) lawRowsBack_ok laidOut rfl (fun ds h=>match ds,h with|[_],_=>rfl)
  ⟨⟨by kernel_rfl,by kernel_rfl,by kernel_rfl,by kernel_rfl,by kernel_rfl⟩,trivial⟩ (by kernel_rfl) (by kernel_rfl) own started (by kernel_rfl) Tryz.func8 rfl
  (witness_row_at (enc:=enc) (C:=Tryz.checked) false (laidWorld os) #[.slice none 0 0] (laidWorld_os os) (by kernel_rfl) (by kernel_rfl) (by kernel_rfl)
    (OpenSpec.preRow_of_cond 8 hx (by kernel_rfl) (fun k hk=>by cases hk;kernel_rfl) (by kernel_rfl) (laidWorld_met os _)))
theorem rowHolds:Rows.RowsBackUptoSaid:=
 OpenClaim.holds_of_cond 8 Tryz.f8 rfl rfl rfl rfl rfl rfl rfl ⟨rfl,rfl,rfl,rfl,rfl⟩ rfl rfl rfl rfl rfl (by kernel_rfl) Tryz.func8 (by kernel_rfl)
  (of_decide_eq_true (by kernel_rfl)) (by unfold Func.isWrapper;first|(rw[if_pos (by decide+kernel)];kernel_rfl)|(rw[if_neg (by decide+kernel)];exact⟨rfl,rfl⟩))
  (fun os started H enc _ F=>by rw[OpenClaim.pre_eq_preRow];exact lifted os started H enc F)
theorem proved:Rows.RowsBackUptoCardSaid:=
 Claim7.holds_tied_plain_at .later [] [.data,.data,.data,.data,.handle,.sentinel,.sentinel,.pinned] true (true,Rows.rowsBackUptoCard.stood.harness.2) true
  rowHolds (fun _ h=>by cases h) (by kernel_rfl) (fun _ h=>by cases h) rowsBackUpto_row_tie rfl ⟨rfl,rfl⟩ (by kernel_rfl) rfl
  (fun f fn hf hfn=>by
    obtain rfl:f=8:=Option.some.inj ((show Tryz.prog.funcNamed "furrow/furrowlaw06.RowsBack" =some 8 by kernel_rfl).symm.trans hf) |>.symm
    obtain rfl:fn=Tryz.f8:=(Option.some.inj (Tryz.func8.symm.trans hfn)).symm
    exact⟨by kernel_rfl,fun j t ht=>by
     have key:∀t∈Tryz.f8.params.toList,Tryz.prog.wantsStandIn t=false:=by decide+kernel
     exact key t (List.mem_of_getElem? (by simpa using ht))⟩)
  (by kernel_rfl)
#print axioms proved
end Go.Proofs.YtcbmonndkjihkaaGreatDoor.RowsBack
