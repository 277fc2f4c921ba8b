/- 'furrowlaw06.RowsPrints': the law returns true, and the input reads as it did. Where what comes holds at most 1048576 values and letters, and the listed package-level variables hold what the program's text lays (the card ties them). -/
import Derived.Test.YtcbmonndkjihkaaGreatDoorW4
import Derived.Test.YtcbmonndkjihkaaGreatDoorW3
import Derived.Test.YtcbmonndkjihkaaGreatDoorW2
import Derived.Deep.DeepHandedRow
import Derived.LaidHandle
import Derived.LaidLaws
import Derived.Lay
import Derived.Test.YtcbmonndkjihkaaGreatDoorRows
import Derived.Lib.LaidTab
import Derived.Stop.LaidErr
import Derived.Shelf.Vars
import Derived.Test.YtcbmonndkjihkaaGreatDoorTie
import Derived.Test.YtcbmonndkjihkaaGreatDoorCards
import Derived.Test.YtcbmonndkjihkaaGreatDoorW0
import Derived.Test.YtcbmonndkjihkaaGreatDoorW1
namespace Go.Proofs.YtcbmonndkjihkaaGreatDoor.Sx
attribute [local irreducible] OkQ Ok
set_option linter.unusedSimpArgs false
set_option linter.unusedVariables false
open Nat renaming reduceEqDiff→Z0,reduceBEq→Z1,reduceAdd→Z2,reduceSub→Z3,reduceMul→Z4,reduceLeDiff→Z5
open Int renaming reduceEq→Z6,reduceLE→Z7,reduceLT→Z8,reduceNeg→Z9,reduceToNat→ZA,reduceAdd→ZB,reduceSub→ZC,reduceMul→ZD
set_option maxRecDepth 8000
def longN(b:UInt8):Nat:=if b.toNat<128 then 1 else if b.toNat<192∨247<b.toNat then 0 else if b.toNat<224 then 2 else if b.toNat<240 then 3 else 4
theorem longN_le(b:UInt8):longN b≤4:=by unfold longN;repeat' split
                                        all_goals omega
theorem u8_of{c:Int}(h:IntKind.u8.has c):∃d:UInt8,d=UInt8.ofNat c.toNat∧c=(d.toNat:Int):=by
 have hc:0≤c∧c≤255:=by simpa[IntKind.has,IntKind.min,IntKind.max,IntKind.signed,IntKind.bits]using h
 refine⟨_,rfl,?_⟩
 simp
 omega
def refLong:Con:=⟨160,[(false,.int .u8)],[(false,.int .i64)],fun _=>True,fun x=>((longN (UInt8.ofNat (x.1:Int).toNat):Int),()),false⟩
theorem refLong_ok:refLong.Ok Tryz.prog:=by
 refine con_q Tryz.func160 rfl (by decide) (fun x hx hp=>go0 nil_ok 400 ?_) (by decide)
 obtain⟨(c:Int),⟨⟩⟩:=x
 obtain⟨d,hd,hcd⟩:=u8_of hx.1
 clear hx hp
 simp(maxSteps:=4000000)only[go_sem,reduceIte,reduceCtorEq,Z0,Z1,Z2,Z3,Z4,Z5,Z6,Z7,Z8,Z9,ZA,ZB,ZC,ZD,Tryz.f160,refLong]
 rw[←hd]
 subst hcd
 (repeat' first|apply And.intro|intro _)
 all_goals first|contradiction|omega|(unfold longN;(repeat' split)<;>omega)|fail
def contB(b:UInt8):Bool:=decide (128≤b.toNat)&&decide (b.toNat≤191)
def bitsT:List Int:=[0,127,31,15,7]
def leastT:List Int:=[0,0,128,2048,65536]
def at0(b:UInt8)(n:Nat):Int:=wr .i64 ((ub .i64 (b.toNat:Int) &&& ub .i64 (bitsT.getD n 0):Nat):Int)
def atN(x:Int)(b:UInt8):Int:=wr .i64 (wr .i64 (wr .i64 (x*64)+(b.toNat:Int)) - 128)
def atFrom(s:List UInt8)(a:Nat):Nat→Nat→Int→Int×Int
 |0,_,x=>(0,x)
 |f+1,i,x=>if s.length≤a+i then(11,0)else if contB (s.getD (a+i) 0)=true then atFrom s a f (i+1) (atN x (s.getD (a+i) 0))else(12,0)
abbrev SpotD:=Int×Int×Int×Int×Unit
def spotV(s:List UInt8)(a:Nat):SpotD:=
 if longN (s.getD a 0)=0 then((a:Int),1,65533,10,())else
 if(atFrom s a (longN (s.getD a 0) - 1) 1 (at0 (s.getD a 0) (longN (s.getD a 0)))).1≠0 then((a:Int),1,65533,(atFrom s a (longN (s.getD a 0) - 1) 1 (at0 (s.getD a 0) (longN (s.getD a 0)))).1,())else
 if(atFrom s a (longN (s.getD a 0) - 1) 1 (at0 (s.getD a 0) (longN (s.getD a 0)))).2<leastT.getD (longN (s.getD a 0)) 0 then((a:Int),1,65533,13,())else
 if 55296≤(atFrom s a (longN (s.getD a 0) - 1) 1 (at0 (s.getD a 0) (longN (s.getD a 0)))).2∧(atFrom s a (longN (s.getD a 0) - 1) 1 (at0 (s.getD a 0) (longN (s.getD a 0)))).2≤57343 then((a:Int),1,65533,14,())else
 if 1114111<(atFrom s a (longN (s.getD a 0) - 1) 1 (at0 (s.getD a 0) (longN (s.getD a 0)))).2 then((a:Int),1,65533,15,())else
 ((a:Int),(longN (s.getD a 0):Int),wr .i32 (atFrom s a (longN (s.getD a 0) - 1) 1 (at0 (s.getD a 0) (longN (s.getD a 0)))).2,0,())
theorem spot_w(s:List UInt8)(a:Nat):∃w:Nat,(spotV s a).2.1=(w:Int)∧1≤w∧w≤4:=by
 have:=longN_le (s.getD a 0)
 unfold spotV
 repeat' split
 all_goals first
  |exact⟨1,rfl,by omega,by omega⟩
  |exact⟨longN (s.getD a 0),rfl,by omega,by omega⟩
abbrev tSpot:Ty:= .pair (.int .i64) (.pair (.int .i64) (.pair (.int .i32) (.pair (.int .i64) .unit)))
def refAt:Con:=⟨136,[(false,.str),(false,.int .i64)],[(true,tSpot)],fun x=>0≤(x.2.1:Int)∧(x.2.1:Int)<(x.1:List UInt8).length,fun x=>(spotV x.1 (x.2.1:Int).toNat,()),false⟩
set_option maxHeartbeats 4000000 in
theorem refAt_ok:refAt.Ok Tryz.prog:=by
 refine con_q Tryz.func136 rfl (by decide) (fun x hx hp=>go0 (cons_ok refLong_ok nil_ok) 0 ?_) (by decide)
 obtain⟨(s:List UInt8),(a':Int),⟨⟩⟩:=x
 have hz:s.length≤140737488355328:=hx.1
 have h0:0≤a':=hp.1
 have hl:a'<s.length:=hp.2
 obtain⟨a,rfl⟩:=Int.eq_ofNat_of_zero_le h0
 clear hx hp h0
 have hB:∀b:UInt8,UInt8.ofNat b.toNat=b:=fun b=>by simp
 obtain⟨b,hb⟩:∃b,b=s.getD a 0:=⟨_,rfl⟩
 have hS:spotV s a=spotV s a:=rfl
 conv at hS=>rhs;unfold spotV
 rw[←hb]at hS
 have hle:=longN_le b
 obtain⟨n,hn⟩:∃n,n=longN b:=⟨_,rfl⟩
 rw[←hn]at hS hle
 by_cases h1:n=0
 ·have d1:decide ((n:Int)=0)=true:=decide_eq_true (by omega)
  rw[if_pos h1]at hS
  refine go0 (cons_ok refLong_ok nil_ok) 60 ?_
  simp(maxSteps:=4000000)only[go_sem,reduceIte,reduceCtorEq,Z0,Z1,Z2,Z3,Z4,Z5,Z6,Z7,Z8,Z9,ZA,ZB,ZC,ZD,Tryz.f136,refAt,Int.toNat_natCast,←hb,hB,←hn,d1,hS,refLong]
  (repeat' first|apply And.intro|intro _|(show staB _ _=true;kernel_rfl)|(show dynB _ _=true;kernel_rfl)|(show dynP _ _ _=true;kernel_rfl))
  all_goals first|contradiction|omega|fail
 have d1:decide ((n:Int)=0)=false:=decide_eq_false (by omega)
 rw[if_neg h1]at hS
 have hwb:∀b:UInt8,wr .i64 (b.toNat:Int)=(b.toNat:Int):=fun b=>by
  have:=b.toNat_lt
  exact wr_i64 (by omega) (by omega)
 have hx0:wr .i64 ((ub .i64 (b.toNat:Int) &&& ub .i64 (([0,127,31,15,7]:List Int).getD n 0):Nat):Int)=at0 b n:=rfl
 refine go0 (cons_ok refLong_ok nil_ok) 400 ?_
 simp(maxSteps:=4000000)only[go_sem,reduceIte,reduceCtorEq,Z0,Z1,Z2,Z3,Z4,Z5,Z6,Z7,Z8,Z9,ZA,ZB,ZC,ZD,Tryz.f136,refAt,Int.toNat_natCast,←hb,hB,←hn,d1,hwb,hx0,refLong]
 (repeat' first|apply And.intro|intro _|(show staB _ _=true;kernel_rfl)|(show dynB _ _=true;kernel_rfl)|(show dynP _ _ _=true;kernel_rfl))
 all_goals try first|contradiction|omega
 generalize hR:atFrom s a (n - 1) 1 (at0 b n)=R at hS
 refine OkQ.loop (α:=Nat×Int) [2,3,7,8,9,10,11,12,13,14,15,16,17,18,19,20,21,22,23,24,25,26,27,28,29,30,31,32,33,34,35,36,37,38,39,40,41,42,43,44,45,46,47,48,49,50,51,52,53,54,55,56,57,58,59,60,61,62,63,64,65,66,67,68,69,70,71,72,73,74,75,76,77,78,79,80,81,82,83,84,85,86,87,88,89] (fun x=>[(8,.s (.int .i64 x.2)),(9,.s (.int .i64 (x.1:Int)))]) (fun _=>[]) (fun x=>x.1≤n∧1≤x.1∧atFrom s a (n - x.1) x.1 x.2=R) (fun x=>n - x.1) (1,at0 b n) ⟨by dsimp only;omega,by dsimp only;omega,hR⟩ ?_ fun x hx=>?_
 ·simp(maxSteps:=4000000)only[go_sem,reduceIte,reduceCtorEq,Z0,Z1,Z2,Z3,Z4,Z5,Z6,Z7,Z8,Z9,ZA,ZB,ZC,ZD,refLong]
  all_goals first|rfl|exact⟨rfl,rfl⟩|fail
 obtain⟨i,x⟩:=x
 obtain⟨hi,hi1,hxR⟩:=hx
 dsimp only at hi hi1 hxR ⊢
 have hT:∀x:Int,wr .i64 (wr .i64 (wr .i64 (x*64)+((s.getD (a+i) 0).toNat:Int)) - 128)=atN x (s.getD (a+i) 0):=fun _=>rfl
 have hwa:wr .i64 ((a:Int)+(i:Int))=((a+i:Nat):Int):=by rw[wr_i64 (by omega) (by omega)];omega
 rcases Nat.lt_or_ge i n with hlt|hge
 ·have dl:decide ((i:Int)<(n:Int))=true:=decide_eq_true (by omega)
  have hw:wr .i64 ((i:Int)+1)=((i+1:Nat):Int):=wr_succ (by omega)
  rw[show n - i=(n - (i+1))+1 by omega,atFrom]at hxR
  by_cases hE:s.length≤a+i
  ·have dE:decide ((s.length:Int)≤((a+i:Nat):Int))=true:=decide_eq_true (by omega)
   rw[if_pos hE]at hxR
   rw[←hxR,if_pos (by simp)]at hS
   refine go0 (cons_ok refLong_ok nil_ok) 400 ?_
   simp(maxSteps:=4000000)only[go_sem,reduceIte,reduceCtorEq,Z0,Z1,Z2,Z3,Z4,Z5,Z6,Z7,Z8,Z9,ZA,ZB,ZC,ZD,dl,hwa,dE,hS,refLong]
   (repeat' first|apply And.intro|intro _|(show staB _ _=true;kernel_rfl)|(show dynB _ _=true;kernel_rfl)|(show dynP _ _ _=true;kernel_rfl))
   all_goals first|contradiction|omega|rfl|fail
  have dE:decide ((s.length:Int)≤((a+i:Nat):Int))=false:=decide_eq_false (by omega)
  rw[if_neg hE]at hxR
  cases hC:contB (s.getD (a+i) 0)
  ·rw[hC,if_neg (by simp)]at hxR
   rw[←hxR,if_pos (by simp)]at hS
   have hC':(s.getD (a+i) 0).toNat<128∨191<(s.getD (a+i) 0).toNat:=by
    simp only[contB,Bool.and_eq_false_iff,decide_eq_false_iff_not]at hC
    omega
   refine go0 (cons_ok refLong_ok nil_ok) 400 ?_
   simp(maxSteps:=4000000)only[go_sem,reduceIte,reduceCtorEq,Z0,Z1,Z2,Z3,Z4,Z5,Z6,Z7,Z8,Z9,ZA,ZB,ZC,ZD,dl,hwa,dE,hwb,hS,refLong]
   (repeat' first|apply And.intro|intro _|(show staB _ _=true;kernel_rfl)|(show dynB _ _=true;kernel_rfl)|(show dynP _ _ _=true;kernel_rfl))
   all_goals first|contradiction|omega|rfl|fail
  ·rw[hC,if_pos rfl]at hxR
   have hC':128≤(s.getD (a+i) 0).toNat∧(s.getD (a+i) 0).toNat≤191:=by
    simp only[contB,Bool.and_eq_true,decide_eq_true_eq]at hC
    exact hC
   have q1:decide (((s.getD (a+i) 0).toNat:Int)<128)=false:=decide_eq_false (by omega)
   have q2:decide ((191:Int)<((s.getD (a+i) 0).toNat:Int))=false:=decide_eq_false (by omega)
   refine go0 (cons_ok refLong_ok nil_ok) 400 ?_
   simp(maxSteps:=4000000)only[go_sem,reduceIte,reduceCtorEq,Z0,Z1,Z2,Z3,Z4,Z5,Z6,Z7,Z8,Z9,ZA,ZB,ZC,ZD,dl,hwa,dE,hwb,q1,q2,hT,hw,refLong]
   (repeat' first|apply And.intro|intro _|(show staB _ _=true;kernel_rfl)|(show dynB _ _=true;kernel_rfl)|(show dynP _ _ _=true;kernel_rfl))
   all_goals try first|contradiction|omega
   exact⟨(i+1,atN x (s.getD (a+i) 0)),⟨by dsimp only;omega,by dsimp only;omega,hxR⟩,by dsimp only;omega,rfl,rfl⟩
 ·have e:i=n:=by omega
  subst e
  have dl:decide ((i:Int)<(i:Int))=false:=decide_eq_false (by omega)
  rw[Nat.sub_self,atFrom]at hxR
  subst hxR
  rw[if_neg (by simp)]at hS
  dsimp only at hS
  have hG:∀i,([0,0,128,2048,65536]:List Int).getD i 0=leastT.getD i 0:=fun _=>rfl
  refine go0 (cons_ok refLong_ok nil_ok) 400 ?_
  simp(maxSteps:=4000000)only[go_sem,reduceIte,reduceCtorEq,Z0,Z1,Z2,Z3,Z4,Z5,Z6,Z7,Z8,Z9,ZA,ZB,ZC,ZD,dl,hG,refLong]
  (repeat' first|apply And.intro|intro _|(show staB _ _=true;kernel_rfl)|(show dynB _ _=true;kernel_rfl)|(show dynP _ _ _=true;kernel_rfl))
  all_goals try first|contradiction|omega
  all_goals first
   |(rw[hS,if_pos (by assumption)];done)
   |(rw[hS,if_neg (by omega),if_pos (by omega)];done)
   |(rw[hS,if_neg (by omega),if_neg (by omega),if_pos (by omega)];done)
   |(rw[hS,if_neg (by omega),if_neg (by omega),if_neg (by omega)];done)
   |fail
def spotsFrom(s:List UInt8):Nat→Nat→List SpotD
 |0,_=>[]
 |f+1,a=>if a<s.length then spotV s a::spotsFrom s f (a+(spotV s a).2.1.toNat)else []
def spotsV(s:List UInt8):List SpotD:=spotsFrom s s.length 0
theorem spots_len(s:List UInt8):∀f a,(spotsFrom s f a).length≤s.length - a
 |0,_=>by simp[spotsFrom]
 |f+1,a=>by
  rw[spotsFrom]
  split
  ·obtain⟨w,hw,h1,_⟩:=spot_w s a
   have:=spots_len s f (a+(spotV s a).2.1.toNat)
   rw[List.length_cons]
   rw[hw]at this ⊢
   omega
  ·simp
def refSpots:Con:=⟨115,[(false,.str)],[(false,.slice 32 tSpot)],fun x=>(x.1:List UInt8).length≤1000000000000,fun x=>(spotsV x.1,()),false⟩
set_option maxHeartbeats 4000000 in
theorem refSpots_ok:refSpots.Ok Tryz.prog:=by
 refine con_q Tryz.func115 rfl (by decide) (fun x hx hp=>go0 (cons_ok refAt_ok nil_ok) 400 ?_) (by decide)
 obtain⟨(s:List UInt8),⟨⟩⟩:=x
 have hz:s.length≤1000000000000:=hp
 clear hx hp
 simp(maxSteps:=4000000)only[go_sem,reduceIte,reduceCtorEq,Z0,Z1,Z2,Z3,Z4,Z5,Z6,Z7,Z8,Z9,ZA,ZB,ZC,ZD,Tryz.f115,refSpots,refAt]
 (repeat' first|apply And.intro|intro _)
 refine OkQ.virt 32 tSpot ?_
 refine OkQ.loop (α:=List SpotD×Nat) [1,2,3,4,5,6,7,8,9,10,11,12,13,14,15,16,17,18,19,20,21] (fun x=>[(3,.s (.sub 0 0 x.1.length)),(4,.s (.int .i64 (x.2:Int)))]) (fun x=>[(0,.arr false 32 tSpot x.1)]) (fun x=>x.2≤s.length+4∧x.1.length≤x.2∧∃f,s.length - x.2≤f∧spotsV s=x.1++spotsFrom s f x.2) (fun x=>s.length - x.2) ([],0) ⟨by omega,Nat.le_refl _,s.length,by omega,rfl⟩ ?_ fun x hx=>?_
 ·simp(maxSteps:=4000000)only[go_sem,reduceIte,reduceCtorEq,Z0,Z1,Z2,Z3,Z4,Z5,Z6,Z7,Z8,Z9,ZA,ZB,ZC,ZD,refAt]
  all_goals first|rfl|exact⟨rfl,rfl⟩|exact⟨⟨rfl,rfl⟩,rfl⟩|fail
 obtain⟨done,a⟩:=x
 obtain⟨ha,hdl,f,hf,hd⟩:=hx
 dsimp only at ha hdl hf hd ⊢
 rcases Nat.lt_or_ge a s.length with hlt|hge
 ·have dl:decide ((a:Int)<(s.length:Int))=true:=decide_eq_true (by omega)
  obtain⟨w,hw,hw1,hw4⟩:=spot_w s a
  obtain⟨f,rfl⟩:∃f',f=f'+1:=⟨f - 1,by omega⟩
  rw[spotsFrom,if_pos hlt,hw,Int.toNat_natCast]at hd
  obtain⟨x,hx⟩:∃x,x=spotV s a:=⟨_,rfl⟩
  rw[←hx]at hd hw
  have hwa:wr .i64 ((a:Int)+(w:Int))=((a+w:Nat):Int):=by rw[wr_i64 (by omega) (by omega)];omega
  obtain⟨x1,x2,x3,x4,⟨⟩⟩:=x
  dsimp only at hw
  subst hw
  refine go0 (cons_ok refAt_ok nil_ok) 400 ?_
  simp(maxSteps:=4000000)only[go_sem,reduceIte,reduceCtorEq,Z0,Z1,Z2,Z3,Z4,Z5,Z6,Z7,Z8,Z9,ZA,ZB,ZC,ZD,dl,Int.toNat_natCast,←hx,hwa,refAt]
  (repeat' first|apply And.intro|intro _)
  all_goals try first|contradiction|omega|exact Int.natCast_nonneg _|exact Int.ofNat_lt.2 hlt
  refine⟨(done++[(x1,(w:Int),x3,x4,())],a+w),⟨by dsimp only;omega,by simp;omega,f,by dsimp only;omega,by rw[hd];simp⟩,by dsimp only;omega,?_⟩
  simp(maxSteps:=4000000)only[go_sem,reduceIte,reduceCtorEq,Z0,Z1,Z2,Z3,Z4,Z5,Z6,Z7,Z8,Z9,ZA,ZB,ZC,ZD,refAt]
  all_goals first|rfl|exact⟨rfl,rfl⟩|exact⟨⟨by simp,rfl⟩,rfl⟩|exact⟨⟨by simp,rfl⟩,rfl,rfl⟩|simp|fail
 ·have dl:decide ((a:Int)<(s.length:Int))=false:=decide_eq_false (by omega)
  have hnil:spotsFrom s f a=[]:=by
   cases f with
   |zero=>rfl
   |succ f=>rw[spotsFrom,if_neg (by omega)]
  rw[hnil,List.append_nil]at hd
  refine go0 (cons_ok refAt_ok nil_ok) 400 ?_
  simp(maxSteps:=4000000)only[go_sem,reduceIte,reduceCtorEq,Z0,Z1,Z2,Z3,Z4,Z5,Z6,Z7,Z8,Z9,ZA,ZB,ZC,ZD,dl,hd,refAt]
  (repeat' first|apply And.intro|intro _)
  all_goals first|contradiction|omega|rfl|(simp;done)|fail
def dRunes(s:List UInt8):List Int:=(spotsV s).map fun x=>x.2.2.1
def refRunes:Con:=⟨83,[(false,.str)],[(false,.slice 4 (.int .i32))],fun x=>(x.1:List UInt8).length≤1000000000000,fun x=>(dRunes x.1,()),false⟩
set_option maxHeartbeats 4000000 in
theorem refRunes_ok:refRunes.Ok Tryz.prog:=by
 refine con_q Tryz.func83 rfl (by decide) (fun x hx hp=>go0 (cons_ok refSpots_ok nil_ok) 400 ?_) (by decide)
 obtain⟨(s:List UInt8),⟨⟩⟩:=x
 have hz:s.length≤1000000000000:=hp
 clear hx hp
 have hL:(spotsV s).length≤s.length:=by have:=spots_len s s.length 0;unfold spotsV;omega
 have hR:dRunes s=(spotsV s).map fun x=>x.2.2.1:=rfl
 simp(maxSteps:=4000000)only[go_sem,reduceIte,reduceCtorEq,Z0,Z1,Z2,Z3,Z4,Z5,Z6,Z7,Z8,Z9,ZA,ZB,ZC,ZD,Tryz.f83,refRunes,refSpots]
 generalize spotsV s=L at*
 (repeat' first|apply And.intro|intro _)
 all_goals try omega
 refine OkQ.virt 4 (.int .i32) ?_
 refine OkQ.loop (α:=Nat) [0,1,2,4,5,6,7,8,9,10,11,12,13,14,15,16,17,18,19,20,21,22] (fun i=>[(4,.s (.sub 1 0 ((L.take i).map fun x=>x.2.2.1).length)),(5,.s (.int .i64 (i:Int)))]) (fun i=>[(1,.arr false 4 (.int .i32) ((L.take i).map fun x=>x.2.2.1))]) (fun i=>i≤L.length) (fun i=>L.length - i) 0 (Nat.zero_le _) ?_ fun i hi=>?_
 ·simp(maxSteps:=4000000)only[go_sem,reduceIte,reduceCtorEq,Z0,Z1,Z2,Z3,Z4,Z5,Z6,Z7,Z8,Z9,ZA,ZB,ZC,ZD,refSpots]
  all_goals first|rfl|exact⟨rfl,rfl⟩|exact⟨⟨rfl,rfl⟩,rfl⟩|fail
 have hll:((L.take i).map fun x=>x.2.2.1).length=i:=by simp;omega
 rcases Nat.lt_or_ge i L.length with hlt|hge
 ·have dl:decide ((i:Int)<(L.length:Int))=true:=decide_eq_true (by omega)
  have hw:wr .i64 ((i:Int)+1)=((i+1:Nat):Int):=wr_succ (by omega)
  have hn:(L.take (i+1)).map (fun x=>x.2.2.1)=(L.take i).map (fun x=>x.2.2.1)++[(L.getD i (0,0,0,0,())).2.2.1]:=by
   rw[List.take_succ_eq_append_getElem hlt,List.map_append]
   congr 1
   simp[List.getD_eq_getElem?_getD,hlt]
  refine go0 (cons_ok refSpots_ok nil_ok) 400 ?_
  simp(maxSteps:=4000000)only[go_sem,reduceIte,reduceCtorEq,Z0,Z1,Z2,Z3,Z4,Z5,Z6,Z7,Z8,Z9,ZA,ZB,ZC,ZD,dl,hw,refSpots]
  (repeat' first|apply And.intro|intro _)
  all_goals try first|contradiction|omega
  refine⟨i+1,by omega,by omega,?_⟩
  rw[hn]
  simp(maxSteps:=4000000)only[go_sem,reduceIte,reduceCtorEq,Z0,Z1,Z2,Z3,Z4,Z5,Z6,Z7,Z8,Z9,ZA,ZB,ZC,ZD,refSpots]
  all_goals first|rfl|exact⟨rfl,rfl⟩|exact⟨⟨by simp,rfl⟩,rfl⟩|simp|fail
 ·have e:i=L.length:=by omega
  subst e
  have dl:decide ((L.length:Int)<(L.length:Int))=false:=decide_eq_false (by omega)
  rw[List.take_length]at hll ⊢
  rw[←hR]at hll ⊢
  refine go0 (cons_ok refSpots_ok nil_ok) 400 ?_
  simp(maxSteps:=4000000)only[go_sem,reduceIte,reduceCtorEq,Z0,Z1,Z2,Z3,Z4,Z5,Z6,Z7,Z8,Z9,ZA,ZB,ZC,ZD,dl,refSpots]
  (repeat' first|apply And.intro|intro _)
  all_goals first|contradiction|omega|rfl|(simp;done)|(rw[←hll,List.take_length];done)|fail
end Go.Proofs.YtcbmonndkjihkaaGreatDoor.Sx
namespace Go.Proofs.YtcbmonndkjihkaaGreatDoor.Sx
attribute [local irreducible] OkQ Ok
set_option linter.unusedSimpArgs false
set_option linter.unusedVariables false
theorem bIPc161:bodyI Tryz.prog 161=bodyF Tryz.f161:=by kernel_rfl
theorem nEPc161:isEsc Tryz.prog 161=false:=by kernel_rfl
open Nat renaming reduceEqDiff→Z0,reduceBEq→Z1,reduceAdd→Z2,reduceSub→Z3,reduceMul→Z4,reduceLeDiff→Z5
open Int renaming reduceEq→Z6,reduceLE→Z7,reduceLT→Z8,reduceNeg→Z9,reduceToNat→ZA,reduceAdd→ZB,reduceSub→ZC,reduceMul→ZD
set_option maxRecDepth 8000
def dScal(r:Int):Bool:=decide (0≤r)&&(decide (r≤1114111)&&(decide (r<55296)||decide (57343<r)))
def o1(n:Int):List UInt8:=[UInt8.ofNat (wr .u8 n).toNat]
def seqV(r:Int):List UInt8:=
 if dScal r=false then [239,191,189]else if r<128 then o1 r else
 if r<2048 then o1 (wr .i64 (192+wr .i64 (r.tdiv 64)))++o1 (wr .i64 (128+r.tmod 64))else
 if r<65536 then o1 (wr .i64 (224+wr .i64 (r.tdiv 4096)))++o1 (wr .i64 (128+(wr .i64 (r.tdiv 64)).tmod 64))++o1 (wr .i64 (128+r.tmod 64))else
 o1 (wr .i64 (240+wr .i64 (r.tdiv 262144)))++o1 (wr .i64 (128+(wr .i64 (r.tdiv 4096)).tmod 64))++o1 (wr .i64 (128+(wr .i64 (r.tdiv 64)).tmod 64))++o1 (wr .i64 (128+r.tmod 64))
theorem seqV_len(r:Int):(seqV r).length≤4:=by
 unfold seqV o1
 repeat' split
 all_goals simp
def refOne:Con:=⟨138,[(false,.int .i64)],[(false,.str)],fun _=>True,fun x=>(o1 x.1,()),false⟩
theorem refOne_ok:refOne.Ok Tryz.prog:=by
 refine con_q Tryz.func138 rfl (by decide) (fun x hx hp=>go0 nil_ok 400 ?_) (by decide)
 obtain⟨(n:Int),⟨⟩⟩:=x
 clear hx hp
 simp(maxSteps:=4000000)only[go_sem,reduceIte,reduceCtorEq,Z0,Z1,Z2,Z3,Z4,Z5,Z6,Z7,Z8,Z9,ZA,ZB,ZC,ZD,Tryz.f138,refOne,o1]
 (repeat' first|apply And.intro|intro _)
 all_goals first|contradiction|omega|rfl|fail
def refWid:Con:=⟨137,[(false,.int .i32)],[(false,.int .i64)],fun _=>True,fun x=>(if dScal x.1=false then 0 else if(x.1:Int)<128 then 1 else if(x.1:Int)<2048 then 2 else if(x.1:Int)<65536 then 3 else 4,()),false⟩
theorem refWid_ok:refWid.Ok Tryz.prog:=by
 refine con_q Tryz.func137 rfl (by decide) (fun x hx hp=>run_ok (Cs:=[]) (stp:=[]) (inl:=[161]) (unr:=false) nil_ok 400 _ _ _ _ ?_) (by decide)
 obtain⟨(r:Int),⟨⟩⟩:=x
 clear hx hp
 have hs:dScal r=true↔(0≤r∧r≤1114111∧(r<55296∨57343<r)):=by
  unfold dScal
  simp
 simp(maxSteps:=4000000)only[go_sem,reduceIte,reduceCtorEq,Z0,Z1,Z2,Z3,Z4,Z5,Z6,Z7,Z8,Z9,ZA,ZB,ZC,ZD,Tryz.f137,refWid,bIPc161,nEPc161,Tryz.f161]
 (repeat' first|apply And.intro|intro _)
 all_goals first
  |contradiction
  |omega
  |(rw[if_pos (by rw[←Bool.not_eq_true,hs];omega)];done)
  |(rw[if_neg (by rw[Bool.not_eq_false,hs];omega),if_pos (by omega)];done)
  |(rw[if_neg (by rw[Bool.not_eq_false,hs];omega),if_neg (by omega),if_pos (by omega)];done)
  |(rw[if_neg (by rw[Bool.not_eq_false,hs];omega),if_neg (by omega),if_neg (by omega),if_pos (by omega)];done)
  |(rw[if_neg (by rw[Bool.not_eq_false,hs];omega),if_neg (by omega),if_neg (by omega),if_neg (by omega)];done)
  |fail
def refSeq:Con:=⟨116,[(false,.int .i32)],[(false,.str)],fun _=>True,fun x=>(seqV x.1,()),false⟩
set_option maxHeartbeats 1000000 in
theorem refSeq_ok:refSeq.Ok Tryz.prog:=by
 refine con_q Tryz.func116 rfl (by decide) (fun x hx hp=>go0 (cons_ok refOne_ok (cons_ok refWid_ok nil_ok)) 0 ?_) (by decide)
 obtain⟨(r:Int),⟨⟩⟩:=x
 have hr: -2147483648≤r∧r≤2147483647:=by
  have:IntKind.i32.has r:=hx.1
  simpa[IntKind.has,IntKind.min,IntKind.max,IntKind.signed,IntKind.bits]using this
 have hwr:wr .i64 r=r:=wr_i64 (by omega) (by omega)
 have ol:∀n,(o1 n).length=1:=fun _=>rfl
 have t0:decide ((0:Int)=1)=false:=by decide
 have t1:decide ((0:Int)=2)=false:=by decide
 have t2:decide ((0:Int)=3)=false:=by decide
 have t3:decide ((0:Int)=4)=false:=by decide
 clear hx hp
 cases hS:dScal r
 ·have e:seqV r=[239,191,189]:=by rw[seqV,if_pos hS]
  refine go0 (cons_ok refOne_ok (cons_ok refWid_ok nil_ok)) 400 ?_
  simp(maxSteps:=4000000)only[go_sem,reduceIte,reduceCtorEq,Z0,Z1,Z2,Z3,Z4,Z5,Z6,Z7,Z8,Z9,ZA,ZB,ZC,ZD,Tryz.f116,refSeq,hwr,hS,if_true,e,refOne,refWid]
  (repeat' first|apply And.intro|intro _)
  all_goals first|contradiction|omega|rfl|fail
 have hS':¬dScal r=false:=by rw[hS];simp
 have hS2:(true=false)=False:=by simp
 by_cases h1:r<128
 ·have e:seqV r=o1 r:=by rw[seqV,if_neg hS',if_pos h1]
  refine go0 (cons_ok refOne_ok (cons_ok refWid_ok nil_ok)) 400 ?_
  simp(maxSteps:=4000000)only[go_sem,reduceIte,reduceCtorEq,Z0,Z1,Z2,Z3,Z4,Z5,Z6,Z7,Z8,Z9,ZA,ZB,ZC,ZD,Tryz.f116,refSeq,hwr,hS,hS2,h1,e,refOne,refWid]
  (repeat' first|apply And.intro|intro _)
  all_goals first|contradiction|omega|rfl|fail
 by_cases h2:r<2048
 ·have e:seqV r=o1 (wr .i64 (192+wr .i64 (r.tdiv 64)))++o1 (wr .i64 (128+r.tmod 64)):=by rw[seqV,if_neg hS',if_neg h1,if_pos h2]
  refine go0 (cons_ok refOne_ok (cons_ok refWid_ok nil_ok)) 400 ?_
  simp(maxSteps:=4000000)only[go_sem,reduceIte,reduceCtorEq,Z0,Z1,Z2,Z3,Z4,Z5,Z6,Z7,Z8,Z9,ZA,ZB,ZC,ZD,Tryz.f116,refSeq,hwr,hS,hS2,h1,h2,e,ol,refOne,refWid]
  (repeat' first|apply And.intro|intro _)
  all_goals first|contradiction|omega|rfl|fail
 by_cases h3:r<65536
 ·have e:seqV r=o1 (wr .i64 (224+wr .i64 (r.tdiv 4096)))++o1 (wr .i64 (128+(wr .i64 (r.tdiv 64)).tmod 64))++o1 (wr .i64 (128+r.tmod 64)):=by rw[seqV,if_neg hS',if_neg h1,if_neg h2,if_pos h3]
  refine go0 (cons_ok refOne_ok (cons_ok refWid_ok nil_ok)) 400 ?_
  simp(maxSteps:=4000000)only[go_sem,reduceIte,reduceCtorEq,Z0,Z1,Z2,Z3,Z4,Z5,Z6,Z7,Z8,Z9,ZA,ZB,ZC,ZD,Tryz.f116,refSeq,hwr,hS,hS2,h1,h2,h3,e,ol,List.length_append,refOne,refWid]
  (repeat' first|apply And.intro|intro _)
  all_goals first|contradiction|omega|rfl|fail
 ·have e:seqV r=o1 (wr .i64 (240+wr .i64 (r.tdiv 262144)))++o1 (wr .i64 (128+(wr .i64 (r.tdiv 4096)).tmod 64))++o1 (wr .i64 (128+(wr .i64 (r.tdiv 64)).tmod 64))++o1 (wr .i64 (128+r.tmod 64)):=by rw[seqV,if_neg hS',if_neg h1,if_neg h2,if_neg h3]
  refine go0 (cons_ok refOne_ok (cons_ok refWid_ok nil_ok)) 400 ?_
  simp(maxSteps:=4000000)only[go_sem,reduceIte,reduceCtorEq,Z0,Z1,Z2,Z3,Z4,Z5,Z6,Z7,Z8,Z9,ZA,ZB,ZC,ZD,Tryz.f116,refSeq,hwr,hS,hS2,h1,h2,h3,e,ol,List.length_append,refOne,refWid]
  (repeat' first|apply And.intro|intro _)
  all_goals first|contradiction|omega|rfl|fail
def dEnc(l:List Int):List UInt8:=(l.map seqV).flatten
theorem dEnc_len(l:List Int):(dEnc l).length≤4*l.length:=by
 unfold dEnc
 induction l with
 |nil=>simp
 |cons a l ih=>
  have:=seqV_len a
  simp at ih ⊢
  omega
def refEnc:Con:=⟨85,[(false,.slice 4 (.int .i32))],[(false,.str)],fun x=>(x.1:List Int).length≤1000000000000,fun x=>(dEnc x.1,()),false⟩
set_option maxHeartbeats 1000000 in
theorem refEnc_ok:refEnc.Ok Tryz.prog:=by
 refine con_q Tryz.func85 rfl (by decide) (fun x hx hp=>go0 (cons_ok refSeq_ok nil_ok) 400 ?_) (by decide)
 obtain⟨(L:List Int),⟨⟩⟩:=x
 have hz:L.length≤1000000000000:=hp
 clear hx hp
 simp(maxSteps:=4000000)only[go_sem,reduceIte,reduceCtorEq,Z0,Z1,Z2,Z3,Z4,Z5,Z6,Z7,Z8,Z9,ZA,ZB,ZC,ZD,Tryz.f85,refEnc,refSeq]
 (repeat' first|apply And.intro|intro _)
 all_goals try omega
 refine OkQ.loop (α:=Nat) [1,2,3,4,5,6,7,8,9,10,11,12,13,14,15,16,17,18] (fun i=>[(3,.s (.str (dEnc (L.take i)))),(4,.s (.int .i64 (i:Int)))]) (fun i=>[]) (fun i=>i≤L.length) (fun i=>L.length - i) 0 (Nat.zero_le _) ?_ fun i hi=>?_
 ·simp(maxSteps:=4000000)only[go_sem,reduceIte,reduceCtorEq,Z0,Z1,Z2,Z3,Z4,Z5,Z6,Z7,Z8,Z9,ZA,ZB,ZC,ZD,refSeq]
  all_goals first|rfl|exact⟨rfl,rfl⟩|fail
 have hel:=dEnc_len (L.take i)
 rw[List.length_take]at hel
 rcases Nat.lt_or_ge i L.length with hlt|hge
 ·have dl:decide ((i:Int)<(L.length:Int))=true:=decide_eq_true (by omega)
  have hw:wr .i64 ((i:Int)+1)=((i+1:Nat):Int):=wr_succ (by omega)
  have hn:dEnc (L.take (i+1))=dEnc (L.take i)++seqV (L.getD i 0):=by
   unfold dEnc
   rw[List.take_succ_eq_append_getElem hlt,List.map_append,List.flatten_append]
   simp[List.getD_eq_getElem?_getD,hlt]
  have hsl:=seqV_len (L.getD i 0)
  refine go0 (cons_ok refSeq_ok nil_ok) 400 ?_
  simp(maxSteps:=4000000)only[go_sem,reduceIte,reduceCtorEq,Z0,Z1,Z2,Z3,Z4,Z5,Z6,Z7,Z8,Z9,ZA,ZB,ZC,ZD,dl,hw,refSeq]
  (repeat' first|apply And.intro|intro _)
  all_goals try first|contradiction|omega
  exact⟨i+1,by omega,by omega,hn.symm,rfl⟩
 ·have e:i=L.length:=by omega
  subst e
  have dl:decide ((L.length:Int)<(L.length:Int))=false:=decide_eq_false (by omega)
  rw[List.take_length]
  refine go0 (cons_ok refSeq_ok nil_ok) 400 ?_
  simp(maxSteps:=4000000)only[go_sem,reduceIte,reduceCtorEq,Z0,Z1,Z2,Z3,Z4,Z5,Z6,Z7,Z8,Z9,ZA,ZB,ZC,ZD,dl,refSeq]
  (repeat' first|apply And.intro|intro _)
  all_goals first|contradiction|omega|rfl|fail
end Go.Proofs.YtcbmonndkjihkaaGreatDoor.Sx
namespace Go.Proofs.YtcbmonndkjihkaaGreatDoor.Sx
attribute [local irreducible] OkQ Ok
set_option linter.unusedSimpArgs false
set_option linter.unusedVariables false
open Nat renaming reduceEqDiff→Z0,reduceBEq→Z1,reduceAdd→Z2,reduceSub→Z3,reduceMul→Z4,reduceLeDiff→Z5
open Int renaming reduceEq→Z6,reduceLE→Z7,reduceLT→Z8,reduceNeg→Z9,reduceToNat→ZA,reduceAdd→ZB,reduceSub→ZC,reduceMul→ZD
set_option maxRecDepth 8000
def refBlank:Con:=⟨84,[(false,.int .i32)],[(false,.bool)],fun _=>True,fun x=>(blankB x.1,()),false⟩
set_option maxHeartbeats 1000000 in
theorem refBlank_ok:refBlank.Ok Tryz.prog:=by
 refine con_q Tryz.func84 rfl (by decide) (fun x hx hp=>go0 nil_ok 400 ?_) (by decide)
 obtain⟨(r:Int),⟨⟩⟩:=x
 clear hx hp
 simp(maxSteps:=4000000)only[go_sem,reduceIte,reduceCtorEq,Z0,Z1,Z2,Z3,Z4,Z5,Z6,Z7,Z8,Z9,ZA,ZB,ZC,ZD,Tryz.f84,refBlank]
 (repeat' first|apply And.intro|intro _)
 all_goals first
  |exact(decide_eq_true (by omega)).symm
  |exact(decide_eq_false (by omega)).symm
  |(unfold blankB;rw[Bool.eq_iff_iff];simp;omega)
  |fail
def dlo(L:List Int):List Int:=(L.filter fun r=>!skipB r).map lowV
theorem dlo_next(L:List Int)(r:Int):dlo (L++[r])=if skipB r=true then dlo L else dlo L++[lowV r]:=by
 unfold dlo
 cases h:skipB r<;>simp[List.filter_append,h]
theorem dlo_len(L:List Int):(dlo L).length≤L.length:=by
 unfold dlo
 rw[List.length_map]
 exact List.length_filter_le _ _
def dLoose(s:List UInt8):List UInt8:=dEnc (dlo (dRunes s))
theorem dRunes_len(s:List UInt8):(dRunes s).length≤s.length:=by
 have:=spots_len s s.length 0
 unfold dRunes spotsV
 rw[List.length_map]
 omega
def refLoose:Con:=⟨60,[(false,.str)],[(false,.str)],fun x=>(x.1:List UInt8).length≤1000000000000,fun x=>(dLoose x.1,()),false⟩
set_option maxHeartbeats 2000000 in
theorem refLoose_ok:refLoose.Ok Tryz.prog:=by
 refine con_q Tryz.func60 rfl (by decide) (fun x hx hp=>go0 (cons_ok refRunes_ok (cons_ok refBlank_ok (cons_ok refEnc_ok nil_ok))) 400 ?_) (by decide)
 obtain⟨(s:List UInt8),⟨⟩⟩:=x
 have hz:s.length≤1000000000000:=hp
 clear hx hp
 have hL:=dRunes_len s
 have hD:dLoose s=dEnc (dlo (dRunes s)):=rfl
 simp(maxSteps:=4000000)only[go_sem,reduceIte,reduceCtorEq,Z0,Z1,Z2,Z3,Z4,Z5,Z6,Z7,Z8,Z9,ZA,ZB,ZC,ZD,Tryz.f60,refLoose,refRunes,refBlank,refEnc]
 generalize dRunes s=L at*
 (repeat' first|apply And.intro|intro _)
 all_goals try omega
 refine OkQ.virt 4 (.int .i32) ?_
 refine OkQ.loop (α:=Nat) [0,1,2,4,5,6,7,8,9,10,11,12,13,14,15,16,17,18,19,20,21,22,23,24,25,26,27,28,29,30,31,32,33,34,35,36,37,38,39,40,41,42] (fun i=>[(4,.s (.sub 1 0 (dlo (L.take i)).length)),(5,.s (.int .i64 (i:Int)))]) (fun i=>[(1,.arr false 4 (.int .i32) (dlo (L.take i)))]) (fun i=>i≤L.length) (fun i=>L.length - i) 0 (Nat.zero_le _) ?_ fun i hi=>?_
 ·simp(maxSteps:=4000000)only[go_sem,reduceIte,reduceCtorEq,Z0,Z1,Z2,Z3,Z4,Z5,Z6,Z7,Z8,Z9,ZA,ZB,ZC,ZD,refRunes,refBlank,refEnc]
  all_goals first|rfl|exact⟨rfl,rfl⟩|exact⟨⟨rfl,rfl⟩,rfl⟩|exact⟨⟨⟨rfl,rfl⟩,rfl⟩,rfl⟩|fail
 have hll:=dlo_len (L.take i)
 rw[List.length_take]at hll
 rcases Nat.lt_or_ge i L.length with hlt|hge
 ·have dl:decide ((i:Int)<(L.length:Int))=true:=decide_eq_true (by omega)
  have hw:wr .i64 ((i:Int)+1)=((i+1:Nat):Int):=wr_succ (by omega)
  obtain⟨r,hr⟩:∃r,r=L.getD i 0:=⟨_,rfl⟩
  have hn:L.take (i+1)=L.take i++[r]:=by
   rw[List.take_succ_eq_append_getElem hlt,hr]
   simp[List.getD_eq_getElem?_getD,hlt]
  have hd:=dlo_next (L.take i) r
  rw[←hn]at hd
  refine go0 (cons_ok refRunes_ok (cons_ok refBlank_ok (cons_ok refEnc_ok nil_ok))) 400 ?_
  simp(maxSteps:=4000000)only[go_sem,reduceIte,reduceCtorEq,Z0,Z1,Z2,Z3,Z4,Z5,Z6,Z7,Z8,Z9,ZA,ZB,ZC,ZD,dl,hw,←hr,refRunes,refBlank,refEnc]
  (repeat' first|apply And.intro|intro _)
  all_goals try omega
  ·have e:dlo (L.take (i+1))=dlo (L.take i):=by rw[hd,if_pos (by simp[skipB];simp_all [or_assoc])]
   exact⟨i+1,by omega,by omega,by rw[e];exact⟨⟨rfl,rfl⟩,rfl⟩⟩
  ·have e:dlo (L.take (i+1))=dlo (L.take i)++[wr .i32 (r+32)]:=by rw[hd,if_neg (by simp[skipB];simp_all),lowV,if_pos ‹_›]
   exact⟨i+1,by omega,by omega,by rw[e];exact⟨⟨by simp,rfl⟩,rfl⟩⟩
  ·have e:dlo (L.take (i+1))=dlo (L.take i)++[r]:=by rw[hd,if_neg (by simp[skipB];simp_all),lowV,if_neg (by omega)]
   exact⟨i+1,by omega,by omega,by rw[e];exact⟨⟨by simp,rfl⟩,rfl⟩⟩
  all_goals fail
 ·have e:i=L.length:=by omega
  subst e
  have dl:decide ((L.length:Int)<(L.length:Int))=false:=decide_eq_false (by omega)
  rw[List.take_length]at hll ⊢
  have ht:List.take (dlo L).length (dlo L)=dlo L:=List.take_length
  refine go0 (cons_ok refRunes_ok (cons_ok refBlank_ok (cons_ok refEnc_ok nil_ok))) 400 ?_
  simp(maxSteps:=4000000)only[go_sem,reduceIte,reduceCtorEq,Z0,Z1,Z2,Z3,Z4,Z5,Z6,Z7,Z8,Z9,ZA,ZB,ZC,ZD,dl,ht,hD,refRunes,refBlank,refEnc]
  (repeat' first|apply And.intro|intro _)
  all_goals first|contradiction|omega|rfl|fail
def dShort(c:Int):List UInt8:=(([]:List UInt8)::nmTab.map fun x=>x.1).getD c.toNat []
def dLong(c:Int):List UInt8:=(([]:List UInt8)::nmTab.map fun x=>x.2).getD c.toNat []
def refShort:Con:=⟨33,[(false,.int .u8)],[(false,.str)],fun _=>True,fun x=>(dShort x.1,()),false⟩
def refLongN:Con:=⟨61,[(false,.int .u8)],[(false,.str)],fun _=>True,fun x=>(dLong x.1,()),false⟩
theorem dShort_past{c:Int}(h:24≤c):dShort c=[]:=by
 unfold dShort
 rw[List.getD_eq_getElem?_getD,List.getElem?_eq_none (by have:(([]:List UInt8)::nmTab.map fun x=>x.1).length=24:=rfl;omega)]
 rfl
theorem dLong_past{c:Int}(h:24≤c):dLong c=[]:=by
 unfold dLong
 rw[List.getD_eq_getElem?_getD,List.getElem?_eq_none (by have:(([]:List UInt8)::nmTab.map fun x=>x.2).length=24:=rfl;omega)]
 rfl
set_option maxHeartbeats 1000000 in
theorem refShort_ok:refShort.Ok Tryz.prog:=by
 refine con_q Tryz.func33 rfl (by decide) (fun x hx hp=>go0 nil_ok 400 ?_) (by decide)
 obtain⟨(c:Int),⟨⟩⟩:=x
 obtain⟨d,hd,hcd⟩:=u8_of hx.1
 have hc:0≤c∧c≤255:=by
  have:=d.toNat_lt
  omega
 have hw:wr .i64 c=c:=wr_i64 (by omega) (by omega)
 clear hx hp
 simp(maxSteps:=4000000)only[go_sem,reduceIte,reduceCtorEq,Z0,Z1,Z2,Z3,Z4,Z5,Z6,Z7,Z8,Z9,ZA,ZB,ZC,ZD,Tryz.f33,refShort,hw]
 (repeat' first|apply And.intro|intro _)
 all_goals first|contradiction|omega|(exact(dShort_past (by omega)).symm)|rfl|fail
set_option maxHeartbeats 1000000 in
theorem refLongN_ok:refLongN.Ok Tryz.prog:=by
 refine con_q Tryz.func61 rfl (by decide) (fun x hx hp=>go0 nil_ok 400 ?_) (by decide)
 obtain⟨(c:Int),⟨⟩⟩:=x
 obtain⟨d,hd,hcd⟩:=u8_of hx.1
 have hc:0≤c∧c≤255:=by
  have:=d.toNat_lt
  omega
 have hw:wr .i64 c=c:=wr_i64 (by omega) (by omega)
 clear hx hp
 simp(maxSteps:=4000000)only[go_sem,reduceIte,reduceCtorEq,Z0,Z1,Z2,Z3,Z4,Z5,Z6,Z7,Z8,Z9,ZA,ZB,ZC,ZD,Tryz.f61,refLongN,hw]
 (repeat' first|apply And.intro|intro _)
 all_goals first|contradiction|omega|(exact(dLong_past (by omega)).symm)|rfl|fail
def isD(s:List UInt8)(c:Int):Bool:=decide (dLoose s=dLoose (dShort c))||decide (dLoose s=dLoose (dLong c))
def dclsFrom(s:List UInt8):Nat→Nat→Int
 |0,_=>0
 |f+1,c=>if isD s (c:Int)=true then(c:Int)else dclsFrom s f (c+1)
def dclsV(s:List UInt8):Int:=dclsFrom s 23 1
theorem dShort_len(c:Int):(dShort c).length≤100:=by
 by_cases h:24≤c
 ·rw[dShort_past h];simp
 ·have key:∀k,k<24→((([]:List UInt8)::nmTab.map fun x=>x.1).getD k []).length≤100:=by decide+kernel
  exact key c.toNat (by omega)
theorem dLong_len(c:Int):(dLong c).length≤100:=by
 by_cases h:24≤c
 ·rw[dLong_past h];simp
 ·have key:∀k,k<24→((([]:List UInt8)::nmTab.map fun x=>x.2).getD k []).length≤100:=by decide+kernel
  exact key c.toNat (by omega)
def refClass:Con:=⟨32,[(false,.str)],[(false,.int .u8)],fun x=>(x.1:List UInt8).length≤1000000000000,fun x=>(dclsV x.1,()),false⟩
set_option maxHeartbeats 1000000 in
theorem refClass_ok:refClass.Ok Tryz.prog:=by
 refine con_q Tryz.func32 rfl (by decide) (fun x hx hp=>go0 (cons_ok refLoose_ok (cons_ok refShort_ok (cons_ok refLongN_ok nil_ok))) 400 ?_) (by decide)
 obtain⟨(s:List UInt8),⟨⟩⟩:=x
 have hz:s.length≤1000000000000:=hp
 clear hx hp
 simp(maxSteps:=4000000)only[go_sem,reduceIte,reduceCtorEq,Z0,Z1,Z2,Z3,Z4,Z5,Z6,Z7,Z8,Z9,ZA,ZB,ZC,ZD,Tryz.f32,refClass,refLoose,refShort,refLongN]
 (repeat' first|apply And.intro|intro _)
 all_goals try omega
 refine OkQ.loop (α:=Nat) [0,1,2,4,5,6,7,8,9,10,11,12,13,14,15,16,17,18,19,20,21,22,23,24,25,26] (fun c=>[(4,.s (.int .i64 (c:Int)))]) (fun c=>[]) (fun c=>1≤c∧c≤24∧dclsV s=dclsFrom s (24 - c) c) (fun c=>24 - c) 1 ⟨by omega,by omega,rfl⟩ ?_ fun c hc=>?_
 ·simp(maxSteps:=4000000)only[go_sem,reduceIte,reduceCtorEq,Z0,Z1,Z2,Z3,Z4,Z5,Z6,Z7,Z8,Z9,ZA,ZB,ZC,ZD,refLoose,refShort,refLongN]
  all_goals first|rfl|fail
 obtain⟨h1,h2,h3⟩:=hc
 have ha:=dShort_len (c:Int)
 have hb:=dLong_len (c:Int)
 have hw:wr .i64 ((c:Int)+1)=((c+1:Nat):Int):=wr_succ (by omega)
 have hw8:wr .u8 (c:Int)=(c:Int):=wr_u8 (by omega) (by omega)
 have hyes:c≤23→isD s (c:Int)=true→dclsV s=(c:Int):=fun hc hi=>by rw[h3,show 24 - c=(23 - c)+1 by omega,dclsFrom,if_pos hi]
 have hno:c≤23→isD s (c:Int)=false→dclsV s=dclsFrom s (24 - (c+1)) (c+1):=fun hc hi=>by
  rw[h3,show 24 - c=(23 - c)+1 by omega,dclsFrom,if_neg (by rw[hi];simp)]
  congr 1
  omega
 refine go0 (cons_ok refLoose_ok (cons_ok refShort_ok (cons_ok refLongN_ok nil_ok))) 400 ?_
 simp(maxSteps:=4000000)only[go_sem,reduceIte,reduceCtorEq,Z0,Z1,Z2,Z3,Z4,Z5,Z6,Z7,Z8,Z9,ZA,ZB,ZC,ZD,hw,hw8,refLoose,refShort,refLongN]
 (repeat' first|apply And.intro|intro _)
 all_goals first
  |omega
  |contradiction
  |(have e:=hyes (by omega) (by simp only[isD,Bool.or_eq_true,decide_eq_true_eq];assumption);exact e.symm)
  |exact⟨c+1,⟨by omega,by omega,hno (by omega) (by simp only[isD,Bool.or_eq_false_iff,decide_eq_false_iff_not];assumption)⟩,by omega,rfl⟩
  |(have e:c=24:=by omega
    subst e
    exact h3.symm)
  |fail
theorem dcls_short:∀k:Nat,k<24→1≤k→dclsV (dShort (k:Int))=(k:Int)∧clsOf (dShort (k:Int))=(k:Int)∧(nmV (k:Int)).1=dShort (k:Int):=by decide+kernel
theorem cls_from(s:List UInt8):∀f c,clsFrom s f c=0∨∃k:Nat,clsFrom s f c=(k:Int)∧c≤k∧k<c+f
 |0,_=> .inl rfl
 |f+1,c=>by
  rw[clsFrom]
  split
  ·exact .inr ⟨c,rfl,Nat.le_refl _,by omega⟩
  ·rcases cls_from s f (c+1)with h|⟨k,h,h1,h2⟩
   ·exact .inl h
   ·exact .inr ⟨k,h,by omega,by omega⟩
theorem dcls_from(s:List UInt8):∀f c,dclsFrom s f c=0∨∃k:Nat,dclsFrom s f c=(k:Int)∧c≤k∧k<c+f
 |0,_=> .inl rfl
 |f+1,c=>by
  rw[dclsFrom]
  split
  ·exact .inr ⟨c,rfl,Nat.le_refl _,by omega⟩
  ·rcases dcls_from s f (c+1)with h|⟨k,h,h1,h2⟩
   ·exact .inl h
   ·exact .inr ⟨k,h,by omega,by omega⟩
theorem dcls_in(s:List UInt8):0≤dclsV s∧dclsV s≤23:=by
 rcases dcls_from s 23 1 with h|⟨k,h,h1,h2⟩
 ·unfold dclsV;rw[h];omega
 ·unfold dclsV;rw[h];omega
theorem dcls_yes{s:List UInt8}(h:clsOf s≠0):dclsV s=clsOf s∧1≤clsOf s∧clsOf s≤23∧dShort (clsOf s)=s:=by
 have h':=h
 unfold clsOf at h'
 split at h'
 ·rename_i hh
  have e:clsOf s=clsV s:=by unfold clsOf;rw[if_pos hh]
  rcases cls_from s 23 1 with h0|⟨k,hk,h1,h2⟩
  ·exact(h' h0).elim
  ·have hk:clsV s=(k:Int):=hk
   obtain⟨a,b,c⟩:=dcls_short k (by omega) h1
   have hs:s=dShort (k:Int):=by rw[←c,←hk];exact hh.2.symm
   rw[e,hk]
   refine⟨?_,by omega,by omega,hs.symm⟩
   rw[hs]
   exact a
 ·exact(h' rfl).elim
theorem dcls_no{s:List UInt8}(h:clsOf s=0):¬(1≤dclsV s∧dShort (dclsV s)=s):=by
 rintro⟨h1,h2⟩
 have hin:=(dcls_in s).2
 obtain⟨k,hk⟩:=Int.eq_ofNat_of_zero_le (show 0≤dclsV s by omega)
 rw[hk]at h1 h2 hin
 obtain⟨a,b,c⟩:=dcls_short k (by omega) (by omega)
 rw[h2,h]at b
 omega
end Go.Proofs.YtcbmonndkjihkaaGreatDoor.Sx
namespace Go.Proofs.YtcbmonndkjihkaaGreatDoor.Sx
attribute [local irreducible] OkQ Ok
set_option linter.unusedSimpArgs false
set_option linter.unusedVariables false
open Nat renaming reduceEqDiff→Z0,reduceBEq→Z1,reduceAdd→Z2,reduceSub→Z3,reduceMul→Z4,reduceLeDiff→Z5
open Int renaming reduceEq→Z6,reduceLE→Z7,reduceLT→Z8,reduceNeg→Z9,reduceToNat→ZA,reduceAdd→ZB,reduceSub→ZC,reduceMul→ZD
set_option maxRecDepth 8000
def numR(s:List UInt8):Nat→Int
 |0=>0
 |i+1=>10*numR s i+dgV (s.getD i 0)
theorem dg_in{b:UInt8}(h:isDg b=true):0≤dgV b∧dgV b≤9:=by
 simp only[isDg,Bool.and_eq_true,decide_eq_true_eq]at h
 unfold dgV
 omega
theorem numR_in{s:List UInt8}:∀i,(∀j,j<i→isDg (s.getD j 0)=true)→0≤numR s i∧numR s i<10 ^ i
 |0,_=>by simp[numR]
 |i+1,h=>by
  obtain⟨a,b⟩:=numR_in i fun j hj=>h j (by omega)
  obtain⟨c,d⟩:=dg_in (h i (by omega))
  rw[numR,Int.pow_succ]
  omega
theorem comb_all{s:List UInt8}(h0:s≠[])(h1:s.length≤3)(h2:¬(1<s.length∧s.getD 0 0=48))(h3:∀j,j<s.length→isDg (s.getD j 0)=true):combV s=if 254<numR s s.length then -1 else numR s s.length:=by
 match s,h0,h1,h2,h3 with
 |[],h0,_,_,_=>exact(h0 rfl).elim
 |[a],_,_,_,h3=>
  have ha:isDg a=true:=h3 0 (by simp)
  have hd:=dg_in ha
  have e:numR [a] [a].length=dgV a:=by show 10*0+dgV a=dgV a;omega
  rw[e,combV,if_pos ha,if_neg (by omega)]
 |[a,b],_,_,h2,h3=>
  have ha:isDg a=true:=h3 0 (by simp)
  have hb:isDg b=true:=h3 1 (by simp)
  have hn:a≠48:=fun h=>h2 ⟨by simp,h⟩
  have hd:=dg_in ha
  have he:=dg_in hb
  have e:numR [a,b] [a,b].length=10*dgV a+dgV b:=by show 10*(10*0+dgV a)+dgV b=_;omega
  rw[e,combV,if_pos ⟨ha,hb,hn⟩,if_neg (by omega)]
 |[a,b,c],_,_,h2,h3=>
  have ha:isDg a=true:=h3 0 (by simp)
  have hb:isDg b=true:=h3 1 (by simp)
  have hc:isDg c=true:=h3 2 (by simp)
  have hn:a≠48:=fun h=>h2 ⟨by simp,h⟩
  have e:numR [a,b,c] [a,b,c].length=10*(10*dgV a+dgV b)+dgV c:=by show 10*(10*(10*0+dgV a)+dgV b)+dgV c=_;omega
  rw[e,combV]
  by_cases h:254<10*(10*dgV a+dgV b)+dgV c
  ·rw[if_pos h,if_neg (fun q=>by omega)]
  ·rw[if_neg h,if_pos ⟨ha,hb,hc,hn,by omega⟩]
 |_::_::_::_::_,_,h1,_,_=>simp at h1
theorem comb_nodig{s:List UInt8}{j:Nat}(hj:j<s.length)(h:isDg (s.getD j 0)=false):combV s= -1:=by
 match s with
 |[]=>rfl
 |[a]=>
  have:j=0:=by simp at hj;omega
  subst this
  have h':isDg a=false:=h
  rw[combV,if_neg (by rw[h'];simp)]
 |[a,b]=>
  rw[combV,if_neg]
  rintro⟨h1,h2,_⟩
  rcases(show j=0∨j=1 by simp at hj;omega)with rfl|rfl
  ·rw[show isDg a=false from h]at h1;cases h1
  ·rw[show isDg b=false from h]at h2;cases h2
 |[a,b,c]=>
  rw[combV,if_neg]
  rintro⟨h1,h2,h3,_⟩
  rcases(show j=0∨j=1∨j=2 by simp at hj;omega)with rfl|rfl|rfl
  ·rw[show isDg a=false from h]at h1;cases h1
  ·rw[show isDg b=false from h]at h2;cases h2
  ·rw[show isDg c=false from h]at h3;cases h3
 |_::_::_::_::_=>simp[combV]
theorem comb_zero{s:List UInt8}(h:1<s.length∧s.getD 0 0=48):combV s= -1:=by
 match s,h with
 |[],h=>simp at h
 |[a],h=>simp at h
 |[a,b],h=>rw[combV,if_neg fun q=>q.2.2 h.2]
 |[a,b,c],h=>rw[combV,if_neg fun q=>q.2.2.2.1 h.2]
 |_::_::_::_::_,_=>simp[combV]
theorem comb_long{s:List UInt8}(h:3<s.length):combV s= -1:=by
 match s,h with
 |[],h=>simp at h
 |[a],h=>simp at h
 |[a,b],h=>simp at h
 |[a,b,c],h=>simp at h
 |_::_::_::_::_,_=>simp[combV]
def refNum:Con:=⟨31,[(false,.str)],[(false,.int .i64)],fun _=>True,fun x=>(combV x.1,()),false⟩
set_option maxHeartbeats 1000000 in
theorem refNum_ok:refNum.Ok Tryz.prog:=by
 refine con_q Tryz.func31 rfl (by decide) (fun x hx hp=>go0 nil_ok 0 ?_) (by decide)
 obtain⟨(s:List UInt8),⟨⟩⟩:=x
 have hz:s.length≤140737488355328:=hx.1
 clear hx hp
 by_cases h0:s=[]
 ·have d0:=dT h0
  have e:combV s= -1:=by rw[h0];rfl
  refine go0 nil_ok 60 ?_
  simp(maxSteps:=4000000)only[go_sem,reduceIte,reduceCtorEq,Z0,Z1,Z2,Z3,Z4,Z5,Z6,Z7,Z8,Z9,ZA,ZB,ZC,ZD,Tryz.f31,refNum,d0,e]
  (repeat' first|apply And.intro|intro _)
  all_goals first|contradiction|omega|rfl|fail
 have d0:=dF h0
 have e48:(((s.getD 0 0).toNat:Int)=48)=(s.getD 0 0=48):=byteQ (s.getD 0 0) 48
 by_cases h1:3<s.length
 ·have d1:decide (3<(s.length:Int))=true:=decide_eq_true (by omega)
  have e:=comb_long h1
  refine go0 nil_ok 60 ?_
  simp(maxSteps:=4000000)only[go_sem,reduceIte,reduceCtorEq,Z0,Z1,Z2,Z3,Z4,Z5,Z6,Z7,Z8,Z9,ZA,ZB,ZC,ZD,Tryz.f31,refNum,d0,d1,e]
  (repeat' first|apply And.intro|intro _)
  all_goals first|contradiction|omega|rfl|fail
 have d1:decide (3<(s.length:Int))=false:=decide_eq_false (by omega)
 by_cases h2:1<s.length∧s.getD 0 0=48
 ·have d2:decide (1<(s.length:Int))=true:=decide_eq_true (by omega)
  have d3:decide (((s.getD 0 0).toNat:Int)=48)=true:=decide_eq_true (by rw[e48];exact h2.2)
  have e:=comb_zero h2
  refine go0 nil_ok 60 ?_
  simp(maxSteps:=4000000)only[go_sem,reduceIte,reduceCtorEq,Z0,Z1,Z2,Z3,Z4,Z5,Z6,Z7,Z8,Z9,ZA,ZB,ZC,ZD,Tryz.f31,refNum,d0,d1,d2,d3,e]
  (repeat' first|apply And.intro|intro _)
  all_goals first|contradiction|omega|rfl|fail
 have hc:=comb_all h0 (by omega) h2
 rcases Nat.lt_or_ge 1 s.length with h4|h4
 ·have d2:decide (1<(s.length:Int))=true:=decide_eq_true (by omega)
  have d3:decide (((s.getD 0 0).toNat:Int)=48)=false:=decide_eq_false (by rw[e48];exact fun h=>h2 ⟨h4,h⟩)
  refine go0 nil_ok 60 ?_
  simp(maxSteps:=4000000)only[go_sem,reduceIte,reduceCtorEq,Z0,Z1,Z2,Z3,Z4,Z5,Z6,Z7,Z8,Z9,ZA,ZB,ZC,ZD,Tryz.f31,refNum,d0,d1,d2,d3]
  (repeat' first|apply And.intro|intro _)
  all_goals try first|contradiction|omega
  refine OkQ.loop (α:=Nat) [1,2,3,4,5,6,7,8,9,10,11,12,13,14,15,16,17,18,19,20,21,22,23,24,25,26,27,28,29,30,31,32,33,34,35,36,37,38,39,40,41,42,43,44,45,46,47,48] (fun i=>[(3,.s (.int .i64 (numR s i))),(4,.s (.int .i64 (i:Int)))]) (fun _=>[]) (fun i=>i≤s.length∧∀j,j<i→isDg (s.getD j 0)=true) (fun i=>s.length - i) 0 ⟨Nat.zero_le _,fun j hj=>by omega⟩ ?_ fun i hi=>?_
  ·simp(maxSteps:=4000000)only[go_sem,reduceIte,reduceCtorEq,Z0,Z1,Z2,Z3,Z4,Z5,Z6,Z7,Z8,Z9,ZA,ZB,ZC,ZD]
   all_goals first|rfl|exact⟨rfl,rfl⟩|fail
  obtain⟨hi,hall⟩:=hi
  obtain⟨r1,r2⟩:=numR_in i hall
  have hp:(10:Int) ^ i≤10 ^ 3:=by
   have:(10:Nat) ^ i≤10 ^ 3:=Nat.pow_le_pow_right (by decide) (by omega)
   exact_mod_cast this
  have e6:(10:Int) ^ 3=1000:=by decide
  rcases Nat.lt_or_ge i s.length with hlt|hge
  ·have dl:decide ((i:Int)<(s.length:Int))=true:=decide_eq_true (by omega)
   have hw:wr .i64 ((i:Int)+1)=((i+1:Nat):Int):=wr_succ (by omega)
   cases hD:isDg (s.getD i 0)
   ·have e:=comb_nodig hlt hD
    have hD':(s.getD i 0).toNat<48∨57<(s.getD i 0).toNat:=by
     simp only[isDg,Bool.and_eq_false_iff,decide_eq_false_iff_not]at hD
     omega
    refine go0 nil_ok 400 ?_
    simp(maxSteps:=4000000)only[go_sem,reduceIte,reduceCtorEq,Z0,Z1,Z2,Z3,Z4,Z5,Z6,Z7,Z8,Z9,ZA,ZB,ZC,ZD,dl,e]
    (repeat' first|apply And.intro|intro _)
    all_goals first|contradiction|omega|rfl|fail
   ·have hD':48≤(s.getD i 0).toNat∧(s.getD i 0).toNat≤57:=by
     simp only[isDg,Bool.and_eq_true,decide_eq_true_eq]at hD
     exact hD
    have q1:decide (((s.getD i 0).toNat:Int)<48)=false:=decide_eq_false (by omega)
    have q2:decide ((57:Int)<((s.getD i 0).toNat:Int))=false:=decide_eq_false (by omega)
    have w1:wr .i64 (10*numR s i)=10*numR s i:=wr_i64 (by omega) (by omega)
    have w2:wr .u8 (((s.getD i 0).toNat:Int) - 48)=dgV (s.getD i 0):=wr_u8 (by omega) (by omega)
    obtain⟨g1,g2⟩:=dg_in hD
    have w4:wr .i64 (dgV (s.getD i 0))=dgV (s.getD i 0):=wr_i64 (by omega) (by omega)
    have w3:wr .i64 (10*numR s i+dgV (s.getD i 0))=numR s (i+1):=wr_i64 (by omega) (by omega)
    refine go0 nil_ok 400 ?_
    simp(maxSteps:=4000000)only[go_sem,reduceIte,reduceCtorEq,Z0,Z1,Z2,Z3,Z4,Z5,Z6,Z7,Z8,Z9,ZA,ZB,ZC,ZD,dl,q1,q2,w1,w2,w4,w3,hw]
    (repeat' first|apply And.intro|intro _)
    all_goals try first|contradiction|omega
    refine⟨i+1,⟨by omega,fun j hj=>?_⟩,by omega,rfl,rfl⟩
    by_cases hji:j=i
    ·rw[hji];exact hD
    ·exact hall j (by omega)
  ·have e:i=s.length:=by omega
   subst e
   have dl:decide ((s.length:Int)<(s.length:Int))=false:=decide_eq_false (by omega)
   have e:=hc hall
   refine go0 nil_ok 400 ?_
   simp(maxSteps:=4000000)only[go_sem,reduceIte,reduceCtorEq,Z0,Z1,Z2,Z3,Z4,Z5,Z6,Z7,Z8,Z9,ZA,ZB,ZC,ZD,dl,e]
   (repeat' first|apply And.intro|intro _)
   all_goals first|contradiction|omega|(rename_i h;rw[if_pos h];done)|(rename_i h;rw[if_neg h];done)|fail
 ·have d2:decide (1<(s.length:Int))=false:=decide_eq_false (by omega)
  refine go0 nil_ok 60 ?_
  simp(maxSteps:=4000000)only[go_sem,reduceIte,reduceCtorEq,Z0,Z1,Z2,Z3,Z4,Z5,Z6,Z7,Z8,Z9,ZA,ZB,ZC,ZD,Tryz.f31,refNum,d0,d1,d2]
  (repeat' first|apply And.intro|intro _)
  all_goals try first|contradiction|omega
  refine OkQ.loop (α:=Nat) [1,2,3,4,5,6,7,8,9,10,11,12,13,14,15,16,17,18,19,20,21,22,23,24,25,26,27,28,29,30,31,32,33,34,35,36,37,38,39,40,41,42,43,44,45,46,47,48] (fun i=>[(3,.s (.int .i64 (numR s i))),(4,.s (.int .i64 (i:Int)))]) (fun _=>[]) (fun i=>i≤s.length∧∀j,j<i→isDg (s.getD j 0)=true) (fun i=>s.length - i) 0 ⟨Nat.zero_le _,fun j hj=>by omega⟩ ?_ fun i hi=>?_
  ·simp(maxSteps:=4000000)only[go_sem,reduceIte,reduceCtorEq,Z0,Z1,Z2,Z3,Z4,Z5,Z6,Z7,Z8,Z9,ZA,ZB,ZC,ZD]
   all_goals first|rfl|exact⟨rfl,rfl⟩|fail
  obtain⟨hi,hall⟩:=hi
  obtain⟨r1,r2⟩:=numR_in i hall
  have hp:(10:Int) ^ i≤10 ^ 3:=by
   have:(10:Nat) ^ i≤10 ^ 3:=Nat.pow_le_pow_right (by decide) (by omega)
   exact_mod_cast this
  have e6:(10:Int) ^ 3=1000:=by decide
  rcases Nat.lt_or_ge i s.length with hlt|hge
  ·have dl:decide ((i:Int)<(s.length:Int))=true:=decide_eq_true (by omega)
   have hw:wr .i64 ((i:Int)+1)=((i+1:Nat):Int):=wr_succ (by omega)
   cases hD:isDg (s.getD i 0)
   ·have e:=comb_nodig hlt hD
    have hD':(s.getD i 0).toNat<48∨57<(s.getD i 0).toNat:=by
     simp only[isDg,Bool.and_eq_false_iff,decide_eq_false_iff_not]at hD
     omega
    refine go0 nil_ok 400 ?_
    simp(maxSteps:=4000000)only[go_sem,reduceIte,reduceCtorEq,Z0,Z1,Z2,Z3,Z4,Z5,Z6,Z7,Z8,Z9,ZA,ZB,ZC,ZD,dl,e]
    (repeat' first|apply And.intro|intro _)
    all_goals first|contradiction|omega|rfl|fail
   ·have hD':48≤(s.getD i 0).toNat∧(s.getD i 0).toNat≤57:=by
     simp only[isDg,Bool.and_eq_true,decide_eq_true_eq]at hD
     exact hD
    have q1:decide (((s.getD i 0).toNat:Int)<48)=false:=decide_eq_false (by omega)
    have q2:decide ((57:Int)<((s.getD i 0).toNat:Int))=false:=decide_eq_false (by omega)
    have w1:wr .i64 (10*numR s i)=10*numR s i:=wr_i64 (by omega) (by omega)
    have w2:wr .u8 (((s.getD i 0).toNat:Int) - 48)=dgV (s.getD i 0):=wr_u8 (by omega) (by omega)
    obtain⟨g1,g2⟩:=dg_in hD
    have w4:wr .i64 (dgV (s.getD i 0))=dgV (s.getD i 0):=wr_i64 (by omega) (by omega)
    have w3:wr .i64 (10*numR s i+dgV (s.getD i 0))=numR s (i+1):=wr_i64 (by omega) (by omega)
    refine go0 nil_ok 400 ?_
    simp(maxSteps:=4000000)only[go_sem,reduceIte,reduceCtorEq,Z0,Z1,Z2,Z3,Z4,Z5,Z6,Z7,Z8,Z9,ZA,ZB,ZC,ZD,dl,q1,q2,w1,w2,w4,w3,hw]
    (repeat' first|apply And.intro|intro _)
    all_goals try first|contradiction|omega
    refine⟨i+1,⟨by omega,fun j hj=>?_⟩,by omega,rfl,rfl⟩
    by_cases hji:j=i
    ·rw[hji];exact hD
    ·exact hall j (by omega)
  ·have e:i=s.length:=by omega
   subst e
   have dl:decide ((s.length:Int)<(s.length:Int))=false:=decide_eq_false (by omega)
   have e:=hc hall
   refine go0 nil_ok 400 ?_
   simp(maxSteps:=4000000)only[go_sem,reduceIte,reduceCtorEq,Z0,Z1,Z2,Z3,Z4,Z5,Z6,Z7,Z8,Z9,ZA,ZB,ZC,ZD,dl,e]
   (repeat' first|apply And.intro|intro _)
   all_goals first|contradiction|omega|(rename_i h;rw[if_pos h];done)|(rename_i h;rw[if_neg h];done)|fail
theorem split_app1(b:UInt8):∀(s:List UInt8) (c:UInt8),splitV b (s++[c])=if c=b then splitV b s++[[]]else(splitV b s).set ((splitV b s).length - 1) ((splitV b s).getD ((splitV b s).length - 1) []++[c])
 |[],c=>by by_cases h:c=b<;>simp[splitV,h]
 |x::s,c=>by
  rw[List.cons_append,splitV,split_app1 b s c,splitV]
  have hne:=split_ne b s
  generalize splitV b s=L at hne ⊢
  cases L with
  |nil=>exact(hne rfl).elim
  |cons y M=>
   by_cases h:c=b<;>by_cases hx:x=b<;>cases M<;>simp[h,hx]
def refPcs6:Con:=⟨62,[(false,.str)],[(false,.slice 16 .str)],fun x=>(x.1:List UInt8).length≤1000000000000,fun x=>(splitV 32 x.1,()),false⟩
set_option maxHeartbeats 1000000 in
theorem refPcs6_ok:refPcs6.Ok Tryz.prog:=by
 refine con_q Tryz.func62 rfl (by decide) (fun x hx hp=>go0 nil_ok 400 ?_) (by decide)
 obtain⟨(s:List UInt8),⟨⟩⟩:=x
 have hz:s.length≤1000000000000:=hp
 clear hx hp
 simp(maxSteps:=4000000)only[go_sem,reduceIte,reduceCtorEq,Z0,Z1,Z2,Z3,Z4,Z5,Z6,Z7,Z8,Z9,ZA,ZB,ZC,ZD,Tryz.f62,refPcs6]
 (repeat' first|apply And.intro|intro _|(show staB _ _=true;kernel_rfl)|(show dynB _ _=true;kernel_rfl)|(show dynP _ _ _=true;kernel_rfl))
 all_goals try first|contradiction|omega
 refine OkQ.loop (α:=Nat) [1,2,3,4,5,6,7,8,9,10,11,12,13,14,15,16,17,18,19,20,21,22,23,24,25,26,27,28,29,30,31,32] (fun i=>[(3,.s (.sub 0 0 (splitV 32 (s.take i)).length)),(4,.s (.int .i64 (i:Int)))]) (fun i=>[(0,.arr false 16 .str (splitV 32 (s.take i)))]) (fun i=>i≤s.length) (fun i=>s.length - i) 0 (Nat.zero_le _) ?_ fun i hi=>?_
 ·simp(maxSteps:=4000000)only[go_sem,reduceIte,reduceCtorEq,Z0,Z1,Z2,Z3,Z4,Z5,Z6,Z7,Z8,Z9,ZA,ZB,ZC,ZD]
  all_goals first|rfl|exact⟨rfl,rfl⟩|exact⟨⟨rfl,rfl⟩,rfl⟩|fail
 have hct:=split_count 32 (s.take i)
 have hne:=split_ne 32 (s.take i)
 rw[List.length_take,Nat.min_eq_left hi]at hct
 have hpos:0<(splitV 32 (s.take i)).length:=List.length_pos_iff.2 hne
 rcases Nat.lt_or_ge i s.length with hlt|hge
 ·have dl:decide ((i:Int)<(s.length:Int))=true:=decide_eq_true (by omega)
  have hw:wr .i64 ((i:Int)+1)=((i+1:Nat):Int):=wr_succ (by omega)
  have hn:s.take (i+1)=s.take i++[s.getD i 0]:=by
   rw[List.take_succ_eq_append_getElem hlt]
   simp[List.getD_eq_getElem?_getD,hlt]
  have hs:=split_app1 32 (s.take i) (s.getD i 0)
  rw[←hn]at hs
  by_cases hb:s.getD i 0=32
  ·have db:decide (((s.getD i 0).toNat:Int)=32)=true:=decide_eq_true (by rw[hb];rfl)
   rw[if_pos hb]at hs
   refine go0 nil_ok 400 ?_
   simp(maxSteps:=4000000)only[go_sem,reduceIte,reduceCtorEq,Z0,Z1,Z2,Z3,Z4,Z5,Z6,Z7,Z8,Z9,ZA,ZB,ZC,ZD,dl,db,hw]
   (repeat' first|apply And.intro|intro _|(show staB _ _=true;kernel_rfl)|(show dynB _ _=true;kernel_rfl)|(show dynP _ _ _=true;kernel_rfl))
   all_goals try first|contradiction|omega
   refine⟨i+1,by omega,by omega,?_⟩
   rw[hs]
   simp(maxSteps:=4000000)only[go_sem,reduceIte,reduceCtorEq,Z0,Z1,Z2,Z3,Z4,Z5,Z6,Z7,Z8,Z9,ZA,ZB,ZC,ZD]
   all_goals first|rfl|exact⟨rfl,rfl⟩|exact⟨⟨by simp,rfl⟩,rfl⟩|simp|fail
  ·have db:decide (((s.getD i 0).toNat:Int)=32)=false:=decide_eq_false fun h=>hb (by rw[show(32:Int)=((32:UInt8).toNat:Int)from rfl,byteQ]at h;exact h)
   rw[if_neg hb]at hs
   have hel:((splitV 32 (s.take i)).getD ((splitV 32 (s.take i)).length - 1) []).length≤s.length:=by
    have hm:(splitV 32 (s.take i)).getD ((splitV 32 (s.take i)).length - 1) []∈splitV 32 (s.take i):=by
     rw[List.getD_eq_getElem?_getD,List.getElem?_eq_getElem (by omega)]
     exact List.getElem_mem _
    have:=split_each 32 (s.take i) _ hm
    rw[List.length_take]at this
    omega
   have hwl:wr .i64 (((splitV 32 (s.take i)).length:Int) - 1)=(((splitV 32 (s.take i)).length - 1:Nat):Int):=by rw[wr_i64 (by omega) (by omega)];omega
   have ht:List.take (i+1 - i) (List.drop i s)=[s.getD i 0]:=by
    rw[show i+1 - i=1 by omega,List.drop_eq_getElem_cons hlt,List.take_succ_cons,List.take_zero]
    simp[List.getD_eq_getElem?_getD,hlt]
   refine go0 nil_ok 400 ?_
   simp(maxSteps:=4000000)only[go_sem,reduceIte,reduceCtorEq,Z0,Z1,Z2,Z3,Z4,Z5,Z6,Z7,Z8,Z9,ZA,ZB,ZC,ZD,dl,db,hw,hwl,Int.toNat_natCast,ht]
   (repeat' first|apply And.intro|intro _|(show staB _ _=true;kernel_rfl)|(show dynB _ _=true;kernel_rfl)|(show dynP _ _ _=true;kernel_rfl))
   all_goals try first|contradiction|omega
   refine⟨i+1,by omega,by omega,?_⟩
   rw[hs]
   simp(maxSteps:=4000000)only[go_sem,reduceIte,reduceCtorEq,Z0,Z1,Z2,Z3,Z4,Z5,Z6,Z7,Z8,Z9,ZA,ZB,ZC,ZD]
   all_goals first|rfl|exact⟨rfl,rfl⟩|exact⟨⟨by simp,rfl⟩,rfl⟩|simp|fail
 ·have e:i=s.length:=by omega
  subst e
  have dl:decide ((s.length:Int)<(s.length:Int))=false:=decide_eq_false (by omega)
  rw[List.take_length]
  refine go0 nil_ok 400 ?_
  simp(maxSteps:=4000000)only[go_sem,reduceIte,reduceCtorEq,Z0,Z1,Z2,Z3,Z4,Z5,Z6,Z7,Z8,Z9,ZA,ZB,ZC,ZD,dl]
  (repeat' first|apply And.intro|intro _|(show staB _ _=true;kernel_rfl)|(show dynB _ _=true;kernel_rfl)|(show dynP _ _ _=true;kernel_rfl))
  all_goals first|contradiction|omega|rfl|(simp;done)|fail
def refHalf6:Con:=⟨40,[(false,.str)],[(false,.str),(false,.bool),(false,.bool)],fun _=>True,fun x=>((halfV x.1).1,(halfV x.1).2.1,(halfV x.1).2.1||(halfV x.1).2.2,()),false⟩
theorem half_mk{s p:List UInt8}(h1:p.length+1<s.length)(h2:s.getD 0 0=60)(h3:s.drop (s.length - p.length)=p):halfOf s p=true:=by
 unfold halfOf sufB
 rw[decide_eq_true h1,decide_eq_true h2,decide_eq_true h3,decide_eq_true (by omega:p.length≤s.length)]
 rfl
theorem half_none{s p:List UInt8}(h:¬(p.length+1<s.length∧s.getD 0 0=60∧s.drop (s.length - p.length)=p)):halfOf s p=false:=by
 rw[←Bool.not_eq_true]
 intro q
 refine h ?_
 unfold halfOf sufB at q
 simp only[Bool.and_eq_true,decide_eq_true_eq]at q
 exact⟨q.2.1,q.1,q.2.2.2⟩
set_option maxHeartbeats 2000000 in
theorem refHalf6_ok:refHalf6.Ok Tryz.prog:=by
 refine con_q Tryz.func40 rfl (by decide) (fun x hx hp=>run_ok (Cs:=[]) (stp:=[]) (inl:=[]) (unr:=true) nil_ok 400 _ _ _ _ ?_) (by decide)
 obtain⟨(s:List UInt8),⟨⟩⟩:=x
 have hz:s.length≤140737488355328:=hx.1
 clear hx hp
 have g0:decide ((0:Int)<((2:Nat):Int))=true:=by decide
 have g1:decide ((1:Int)<((2:Nat):Int))=true:=by decide
 have g2:decide ((2:Int)<((2:Nat):Int))=false:=by decide
 have w1:wr .i64 1=1:=by decide+kernel
 have w2:wr .i64 2=2:=by decide+kernel
 have e0:([[44,32,70,105,114,115,116,62],[44,32,76,97,115,116,62]]:List (List UInt8)).getD 0 []=fstS:=rfl
 have e1:([[44,32,70,105,114,115,116,62],[44,32,76,97,115,116,62]]:List (List UInt8)).getD 1 []=lstS:=rfl
 have l0:fstS.length=8:=rfl
 have l1:lstS.length=7:=rfl
 have n0:wr .i64 ((s.length:Int) - ((8:Nat):Int))=(s.length:Int) - 8:=by rw[wr_i64 (by omega) (by omega)];omega
 have n1:wr .i64 ((s.length:Int) - ((7:Nat):Int))=(s.length:Int) - 7:=by rw[wr_i64 (by omega) (by omega)];omega
 have t0:((s.length:Int) - 8).toNat=s.length - 8:=by omega
 have t1:((s.length:Int) - 7).toNat=s.length - 7:=by omega
 have k0:List.take (s.length - (s.length - 8)) (List.drop (s.length - 8) s)=List.drop (s.length - 8) s:=List.take_of_length_le (by simp)
 have k1:List.take (s.length - (s.length - 7)) (List.drop (s.length - 7) s)=List.drop (s.length - 7) s:=List.take_of_length_le (by simp)
 have q0:decide (fstS=[44,32,70,105,114,115,116,62])=true:=by decide
 have q1:decide (lstS=[44,32,70,105,114,115,116,62])=false:=by decide
 have e48:(((s.getD 0 0).toNat:Int)=60)=(s.getD 0 0=60):=byteQ (s.getD 0 0) 60
 simp(maxSteps:=4000000)only[go_sem,reduceIte,reduceCtorEq,Z0,Z1,Z2,Z3,Z4,Z5,Z6,Z7,Z8,Z9,ZA,ZB,ZC,ZD,Tryz.f40,refHalf6,g0,g1,g2,w1,w2,e0,e1,l0,l1,n0,n1,t0,t1,k0,k1,q0,q1,e48]
 have hA:((1<(s.length:Int) - 8∧s.getD 0 0=60)∧List.drop (s.length - 8) s=fstS)→halfV s=(List.take (s.length - 8 - 1) (List.drop 1 s),true,false):=fun h=>by
  have h1:=h.1.1
  rw[halfV,if_pos (half_mk (p:=fstS) (by rw[l0];omega) h.1.2 h.2),plainOf,l0,show s.length - 1 - 8=s.length - 8 - 1 by omega]
 have hN:((¬1<(s.length:Int) - 8∨¬s.getD 0 0=60)∨¬List.drop (s.length - 8) s=fstS)→halfOf s fstS=false:=fun h=>half_none (by
  rw[l0]
  rintro⟨a,b,c⟩
  rcases h with(h|h)|h
  ·omega
  ·exact h b
  ·exact h c)
 have hB:((¬1<(s.length:Int) - 8∨¬s.getD 0 0=60)∨¬List.drop (s.length - 8) s=fstS)→((1<(s.length:Int) - 7∧s.getD 0 0=60)∧List.drop (s.length - 7) s=lstS)→halfV s=(List.take (s.length - 7 - 1) (List.drop 1 s),false,true):=fun h' h=>by
  have h1:=h.1.1
  rw[halfV,hN h',if_neg (by simp),if_pos (half_mk (p:=lstS) (by rw[l1];omega) h.1.2 h.2),plainOf,l1,show s.length - 1 - 7=s.length - 7 - 1 by omega]
 have hC:((¬1<(s.length:Int) - 8∨¬s.getD 0 0=60)∨¬List.drop (s.length - 8) s=fstS)→((¬1<(s.length:Int) - 7∨¬s.getD 0 0=60)∨¬List.drop (s.length - 7) s=lstS)→halfV s=([],false,false):=fun h' h=>by
  have h2:halfOf s lstS=false:=half_none (by
   rw[l1]
   rintro⟨a,b,c⟩
   rcases h with(h|h)|h
   ·omega
   ·exact h b
   ·exact h c)
  rw[halfV,hN h',h2,if_neg (by simp),if_neg (by simp)]
 (repeat' first|apply And.intro|intro _)
 all_goals try first|contradiction|omega
 all_goals first
  |(rename_i h;exact h.2)
  |(rename_i h;simp[hA h];done)
  |(rename_i h1 h2;simp[hB h1 h2];done)
  |(rename_i h1 h2;simp[hC h1 h2];done)
  |fail
theorem isTag_iff{x:List UInt8}:isTag x=true↔(2≤x.length∧x.getD 0 0=60)∧x.getD (x.length - 1) 0=62:=by
 unfold isTag
 simp only[Bool.and_eq_true,decide_eq_true_eq,and_assoc]
def refMade:Con:=⟨34,[(false,.str)],[(false,.int .i32),(false,.bool)],fun x=>(x.1:List UInt8).length≤1000000000,fun x=>(if madeOk x.1=true then madeV x.1 else 0,madeOk x.1,()),false⟩
set_option maxHeartbeats 2000000 in
theorem refMade_ok:refMade.Ok Tryz.prog:=by
 refine con_q Tryz.func34 rfl (by decide) (fun x hx hp=>go0 (cons_ok refPcs6_ok (cons_ok refHex_ok nil_ok)) 0 ?_) (by decide)
 obtain⟨(s:List UInt8),⟨⟩⟩:=x
 have hz:s.length≤1000000000:=hp
 clear hx hp
 by_cases c5:s=[]
 ·have d5:=dT c5
  have e1:madeOk s=true:=by rw[c5];rfl
  have e2:madeV s=0:=by rw[c5];rfl
  refine go0 (cons_ok refPcs6_ok (cons_ok refHex_ok nil_ok)) 30 ?_
  simp(maxSteps:=4000000)only[go_sem,reduceIte,reduceCtorEq,Z0,Z1,Z2,Z3,Z4,Z5,Z6,Z7,Z8,Z9,ZA,ZB,ZC,ZD,Tryz.f34,refMade,d5,e1,e2,if_true,refPcs6,refHex]
  (repeat' first|apply And.intro|intro _)
  all_goals first|contradiction|omega|rfl|fail
 have d5:=dF c5
 have hL:0<(splitV 32 s).length:=List.length_pos_iff.2 (split_ne 32 _)
 have hLs:(splitV 32 s).length≤1000000001:=by have:=split_count 32 s;omega
 have hh:(splitV 32 s).headD []=(splitV 32 s).getD 0 []:=by
  cases splitV 32 s<;>rfl
 have hx0:((splitV 32 s).getD 0 []).length≤1000000000:=by
  have:=split_mem 32 s ((splitV 32 s).getD 0 []) (head_mem hL)
  omega
 have hit:=isTag_iff (x:=(splitV 32 s).getD 0 [])
 have hwl:wr .i64 ((((splitV 32 s).getD 0 []).length:Int) - 1)=(((splitV 32 s).getD 0 []).length:Int) - 1:=wr_i64 (by omega) (by omega)
 have t1:((((splitV 32 s).getD 0 []).length:Int) - 1).toNat=((splitV 32 s).getD 0 []).length - 1:=by omega
 have e60:∀b:UInt8,((b.toNat:Int)=60)=(b=60):=fun b=>byteQ b 60
 have e62:∀b:UInt8,((b.toNat:Int)=62)=(b=62):=fun b=>byteQ b 62
 cases hg:isTag ((splitV 32 s).getD 0 [])
 ·have hM:madeL s=splitV 32 s:=by
   unfold madeL
   rw[hh,if_neg (by rw[hg];simp)]
  have hnt:¬isTag ((splitV 32 s).headD [])=true:=by rw[hh,hg];simp
  have hng:¬((2≤((splitV 32 s).getD 0 []).length∧((splitV 32 s).getD 0 []).getD 0 0=60)∧((splitV 32 s).getD 0 []).getD (((splitV 32 s).getD 0 []).length - 1) 0=62):=fun h=>by rw[hit.2 h]at hg;cases hg
  refine go0 (cons_ok refPcs6_ok (cons_ok refHex_ok nil_ok)) 60 ?_
  simp(maxSteps:=4000000)only[go_sem,reduceIte,reduceCtorEq,Z0,Z1,Z2,Z3,Z4,Z5,Z6,Z7,Z8,Z9,ZA,ZB,ZC,ZD,Tryz.f34,refMade,d5,hwl,t1,e60,e62,refPcs6,refHex]
  (repeat' first|apply And.intro|intro _)
  all_goals try first|contradiction|omega|(rename_i h;exact h.2)|(rename_i h;exact(hng ⟨⟨by omega,h.1.2⟩,h.2⟩).elim)
  have dN:decide (((splitV 32 s).length:Int)=0)=false:=decide_eq_false (by omega)
  refine go0 (cons_ok refPcs6_ok (cons_ok refHex_ok nil_ok)) 60 ?_
  simp(maxSteps:=4000000)only[go_sem,reduceIte,reduceCtorEq,Z0,Z1,Z2,Z3,Z4,Z5,Z6,Z7,Z8,Z9,ZA,ZB,ZC,ZD,dN,refPcs6,refHex]
  (repeat' first|apply And.intro|intro _)
  all_goals try first|contradiction|omega
  refine OkQ.loop (α:=Nat) [0,1,2,3,6,7,8,9,10,11,12,13,14,15,16,17,18,19,20,21,22,23,24,25,26,27,28,29,30,31,32,33,34,35,36,37,38,39,40,41,42,43,44,45,46,47,48,49,50,51,52,53,54,55,56,57,58,59,60,61,62,63,64,65] (fun i=>[(7,.s (.int .i32 (twI (splitV 32 s) i))),(8,.s (.int .i64 (i:Int)))]) (fun i=>[])
   (fun i=>i≤(splitV 32 s).length∧∀j,j<i→hexE ((splitV 32 s).getD j [])=0) (fun i=>(splitV 32 s).length - i) 0 ⟨by omega,fun j h=>by omega⟩ ?_ fun i hi=>?_
  ·simp(maxSteps:=4000000)only[go_sem,reduceIte,reduceCtorEq,Z0,Z1,Z2,Z3,Z4,Z5,Z6,Z7,Z8,Z9,ZA,ZB,ZC,ZD,refPcs6,refHex]
   all_goals first|rfl|exact⟨rfl,rfl⟩|exact⟨⟨rfl,rfl⟩,rfl⟩|exact⟨rfl,rfl,rfl⟩|fail
  obtain⟨hi,hall⟩:=hi
  generalize hMM:splitV 32 s=M at*
  have hxl:(M.getD i []).length≤140737488355328:=by
   by_cases hm:i<M.length
   ·have:M.getD i []∈M:=by
     rw[List.getD_eq_getElem?_getD,List.getElem?_eq_getElem hm]
     exact List.getElem_mem _
    rw[←hMM]at this
    have:=split_each 32 s _ this
    rw[hMM]at this
    omega
   ·rw[List.getD_eq_getElem?_getD,List.getElem?_eq_none (by omega)]
    simp
  rcases Nat.lt_or_ge i M.length with hlt|hge
  ·have dI:decide ((i:Int)<(M.length:Int))=true:=decide_eq_true (by omega)
   have hw:wr .i64 ((i:Int)+1)=((i+1:Nat):Int):=wr_succ (by omega)
   by_cases hx:hexE (M.getD i [])=0
   ·have dX:decide (hexE (M.getD i [])=0)=true:=decide_eq_true hx
    refine go0 (cons_ok refPcs6_ok (cons_ok refHex_ok nil_ok)) 60 ?_
    simp(maxSteps:=4000000)only[go_sem,reduceIte,reduceCtorEq,Z0,Z1,Z2,Z3,Z4,Z5,Z6,Z7,Z8,Z9,ZA,ZB,ZC,ZD,dI,dX,hw,refPcs6,refHex]
    (repeat' first|apply And.intro|intro _)
    all_goals try first|contradiction|omega|rfl|trivial
    refine⟨i+1,⟨by omega,fun j hj=>?_⟩,by omega,?_⟩
    ·by_cases hji:j=i
     ·rw[hji];exact hx
     ·exact hall j (by omega)
    ·first|exact⟨rfl,rfl⟩|exact⟨rfl,rfl,rfl⟩|fail
   ·have dX:decide (hexE (M.getD i [])=0)=false:=decide_eq_false hx
    have eo:=made_no c5 hM hlt hx
    have eo2:¬(madeOk s=true):=by rw[eo];simp
    refine go0 (cons_ok refPcs6_ok (cons_ok refHex_ok nil_ok)) 60 ?_
    simp(maxSteps:=4000000)only[go_sem,reduceIte,reduceCtorEq,Z0,Z1,Z2,Z3,Z4,Z5,Z6,Z7,Z8,Z9,ZA,ZB,ZC,ZD,dI,dX,eo,if_neg eo2,refPcs6,refHex]
    (repeat' first|apply And.intro|intro _)
    all_goals first|contradiction|omega|rfl|trivial|fail
  ·have e:i=M.length:=by omega
   subst e
   have dI:decide ((M.length:Int)<(M.length:Int))=false:=decide_eq_false (by omega)
   have hok:=made_yes c5 hM (List.length_pos_iff.1 hL) hall
   by_cases h1:1<M.length
   ·have d1:decide ((1:Int)<(M.length:Int))=true:=decide_eq_true (by omega)
    have e0:=made_v0 hM (.inr h1)
    refine go0 (cons_ok refPcs6_ok (cons_ok refHex_ok nil_ok)) 60 ?_
    simp(maxSteps:=4000000)only[go_sem,reduceIte,reduceCtorEq,Z0,Z1,Z2,Z3,Z4,Z5,Z6,Z7,Z8,Z9,ZA,ZB,ZC,ZD,dI,d1,hok,if_true,e0,refPcs6,refHex]
    (repeat' first|apply And.intro|intro _)
    all_goals first|contradiction|omega|rfl|trivial|fail
   ·have d1:decide ((1:Int)<(M.length:Int))=false:=decide_eq_false (by omega)
    have h2:M.length=1:=by omega
    have e0:madeV s=twI M M.length:=by
     rw[made_v1 c5 hM (fun h=>h.elim (fun h=>hnt (by rw[←hMM];exact h)) h1),hh,h2]
     rfl
    refine go0 (cons_ok refPcs6_ok (cons_ok refHex_ok nil_ok)) 60 ?_
    simp(maxSteps:=4000000)only[go_sem,reduceIte,reduceCtorEq,Z0,Z1,Z2,Z3,Z4,Z5,Z6,Z7,Z8,Z9,ZA,ZB,ZC,ZD,dI,d1,hok,if_true,e0,refPcs6,refHex]
    (repeat' first|apply And.intro|intro _)
    all_goals first|contradiction|omega|rfl|trivial|fail
 ·have hM:madeL s=(splitV 32 s).tail:=by
   unfold madeL
   rw[hh,if_pos hg]
  have hyg:=hit.1 hg
  have hgh:isTag ((splitV 32 s).headD [])=true:=by rw[hh];exact hg
  have hG:∀i,(splitV 32 s).getD (i+1) []=(splitV 32 s).tail.getD i []:=fun i=>by
   cases splitV 32 s<;>simp
  have hG':∀i,(splitV 32 s).getD (1+i) []=(splitV 32 s).tail.getD i []:=fun i=>by rw[Nat.add_comm,hG]
  have hTl:(splitV 32 s).length - 1=(splitV 32 s).tail.length:=by rw[List.length_tail]
  refine go0 (cons_ok refPcs6_ok (cons_ok refHex_ok nil_ok)) 60 ?_
  simp(maxSteps:=4000000)only[go_sem,reduceIte,reduceCtorEq,Z0,Z1,Z2,Z3,Z4,Z5,Z6,Z7,Z8,Z9,ZA,ZB,ZC,ZD,Tryz.f34,refMade,d5,hwl,t1,e60,e62,refPcs6,refHex]
  (repeat' first|apply And.intro|intro _)
  all_goals try first|contradiction|omega|(rename_i h;exact h.2)|(rename_i h;exfalso;rcases h with(h|h)|h;exact h (by omega);exact h hyg.1.2;exact h hyg.2)
  by_cases hN:(splitV 32 s).tail=[]
  ·have dN:decide (((splitV 32 s).tail.length:Int)=0)=true:=decide_eq_true (by rw[hN];rfl)
   have eo:=made_nil c5 (hM.trans hN)
   have eo2:¬(madeOk s=true):=by rw[eo];simp
   refine go0 (cons_ok refPcs6_ok (cons_ok refHex_ok nil_ok)) 60 ?_
   simp(maxSteps:=4000000)only[go_sem,reduceIte,reduceCtorEq,Z0,Z1,Z2,Z3,Z4,Z5,Z6,Z7,Z8,Z9,ZA,ZB,ZC,ZD,hTl,dN,eo,if_neg eo2,refPcs6,refHex]
   (repeat' first|apply And.intro|intro _)
   all_goals first|contradiction|omega|rfl|trivial|fail
  have dN:decide (((splitV 32 s).tail.length:Int)=0)=false:=decide_eq_false fun h=>hN (List.length_eq_zero_iff.1 (by omega))
  have hTs:(splitV 32 s).tail.length≤1000000001:=by rw[List.length_tail];omega
  refine go0 (cons_ok refPcs6_ok (cons_ok refHex_ok nil_ok)) 60 ?_
  simp(maxSteps:=4000000)only[go_sem,reduceIte,reduceCtorEq,Z0,Z1,Z2,Z3,Z4,Z5,Z6,Z7,Z8,Z9,ZA,ZB,ZC,ZD,hTl,dN,refPcs6,refHex]
  (repeat' first|apply And.intro|intro _)
  all_goals try first|contradiction|omega
  refine OkQ.loop (α:=Nat) [0,1,2,3,6,7,8,9,10,11,12,13,14,15,16,17,18,19,20,21,22,23,24,25,26,27,28,29,30,31,32,33,34,35,36,37,38,39,40,41,42,43,44,45,46,47,48,49,50,51,52,53,54,55,56,57,58,59,60,61,62,63,64,65] (fun i=>[(7,.s (.int .i32 (twI (splitV 32 s).tail i))),(8,.s (.int .i64 (i:Int)))]) (fun i=>[])
   (fun i=>i≤(splitV 32 s).tail.length∧∀j,j<i→hexE ((splitV 32 s).tail.getD j [])=0) (fun i=>(splitV 32 s).tail.length - i) 0 ⟨by omega,fun j h=>by omega⟩ ?_ fun i hi=>?_
  ·simp(maxSteps:=4000000)only[go_sem,reduceIte,reduceCtorEq,Z0,Z1,Z2,Z3,Z4,Z5,Z6,Z7,Z8,Z9,ZA,ZB,ZC,ZD,refPcs6,refHex]
   all_goals first|rfl|exact⟨rfl,rfl⟩|exact⟨⟨rfl,rfl⟩,rfl⟩|exact⟨rfl,rfl,rfl⟩|fail
  obtain⟨hi,hall⟩:=hi
  have hxl:((splitV 32 s).tail.getD i []).length≤140737488355328:=by
   by_cases hm:i<(splitV 32 s).tail.length
   ·have:(splitV 32 s).tail.getD i []∈splitV 32 s:=by
     rw[List.getD_eq_getElem?_getD,List.getElem?_eq_getElem hm]
     exact List.mem_of_mem_tail (List.getElem_mem _)
    have:=split_each 32 s _ this
    omega
   ·rw[List.getD_eq_getElem?_getD,List.getElem?_eq_none (by omega)]
    simp
  rcases Nat.lt_or_ge i (splitV 32 s).tail.length with hlt|hge
  ·have dI:decide ((i:Int)<((splitV 32 s).tail.length:Int))=true:=decide_eq_true (by omega)
   have hw:wr .i64 ((i:Int)+1)=((i+1:Nat):Int):=wr_succ (by omega)
   by_cases hx:hexE ((splitV 32 s).tail.getD i [])=0
   ·have dX:decide (hexE ((splitV 32 s).tail.getD i [])=0)=true:=decide_eq_true hx
    refine go0 (cons_ok refPcs6_ok (cons_ok refHex_ok nil_ok)) 60 ?_
    simp(maxSteps:=4000000)only[go_sem,reduceIte,reduceCtorEq,Z0,Z1,Z2,Z3,Z4,Z5,Z6,Z7,Z8,Z9,ZA,ZB,ZC,ZD,hTl,dI,hG,hG',dX,hw,refPcs6,refHex]
    (repeat' first|apply And.intro|intro _)
    all_goals try first|contradiction|omega|rfl|trivial
    refine⟨i+1,⟨by omega,fun j hj=>?_⟩,by omega,?_⟩
    ·by_cases hji:j=i
     ·rw[hji];exact hx
     ·exact hall j (by omega)
    ·first|exact⟨rfl,rfl⟩|exact⟨rfl,rfl,rfl⟩|fail
   ·have dX:decide (hexE ((splitV 32 s).tail.getD i [])=0)=false:=decide_eq_false hx
    have eo:=made_no c5 hM hlt hx
    have eo2:¬(madeOk s=true):=by rw[eo];simp
    refine go0 (cons_ok refPcs6_ok (cons_ok refHex_ok nil_ok)) 60 ?_
    simp(maxSteps:=4000000)only[go_sem,reduceIte,reduceCtorEq,Z0,Z1,Z2,Z3,Z4,Z5,Z6,Z7,Z8,Z9,ZA,ZB,ZC,ZD,hTl,dI,hG,hG',dX,eo,if_neg eo2,refPcs6,refHex]
    (repeat' first|apply And.intro|intro _)
    all_goals first|contradiction|omega|rfl|trivial|fail
  ·have e:i=(splitV 32 s).tail.length:=by omega
   subst e
   have dI:decide (((splitV 32 s).tail.length:Int)<((splitV 32 s).tail.length:Int))=false:=decide_eq_false (by omega)
   have hok:=made_yes c5 hM hN hall
   have e0:=made_v0 hM (.inl hgh)
   refine go0 (cons_ok refPcs6_ok (cons_ok refHex_ok nil_ok)) 60 ?_
   simp(maxSteps:=4000000)only[go_sem,reduceIte,reduceCtorEq,Z0,Z1,Z2,Z3,Z4,Z5,Z6,Z7,Z8,Z9,ZA,ZB,ZC,ZD,hTl,dI,hok,if_true,e0,refPcs6,refHex]
   (repeat' first|apply And.intro|intro _)
   all_goals first|contradiction|omega|rfl|trivial|fail
end Go.Proofs.YtcbmonndkjihkaaGreatDoor.Sx
namespace Go.Proofs.YtcbmonndkjihkaaGreatDoor.Sx
attribute [local irreducible] OkQ Ok
set_option linter.unusedSimpArgs false
set_option linter.unusedVariables false
open Nat renaming reduceEqDiff→Z0,reduceBEq→Z1,reduceAdd→Z2,reduceSub→Z3,reduceMul→Z4,reduceLeDiff→Z5
open Int renaming reduceEq→Z6,reduceLE→Z7,reduceLT→Z8,reduceNeg→Z9,reduceToNat→ZA,reduceAdd→ZB,reduceSub→ZC,reduceMul→ZD
set_option maxRecDepth 8000
abbrev tCh:Ty:= .pair (.int .i64) (.pair (.int .i64) (.pair (.int .i32) (.pair .bool .unit)))
def ch0(s:List UInt8)(j:Nat):ChD:=((walkP s j:Int),0,chrAt s j,false,())
def chars1(s:List UInt8)(n i:Nat):List ChD:=(List.range n).map fun j=>if j<i then chOf s j else ch0 s j
theorem chars1_len(s:List UInt8)(n i:Nat):(chars1 s n i).length=n:=by simp[chars1]
theorem chars1_at{s:List UInt8}{n i j:Nat}(h:j<n)(d:ChD):(chars1 s n i).getD j d=if j<i then chOf s j else ch0 s j:=by
 simp[chars1,List.getD_eq_getElem?_getD,h]
theorem chars1_set{s:List UInt8}{n i:Nat}(h:i<n):(chars1 s n i).set i (chOf s i)=chars1 s n (i+1):=by
 apply List.ext_getElem
 ·simp[chars1]
 ·intro j h1 h2
  simp only[chars1,List.getElem_set,List.getElem_map,List.getElem_range]
  by_cases e:i=j
  ·subst e;simp
  ·rw[if_neg e]
   by_cases hj:j<i
   ·rw[if_pos hj,if_pos (by omega)]
   ·rw[if_neg hj,if_neg (by omega)]
theorem chars1_zero(s:List UInt8)(n:Nat):chars1 s n 0=(List.range n).map (ch0 s):=by simp[chars1]
theorem chars1_all(s:List UInt8):chars1 s (cntV s) (cntV s)=charsV s:=by
 unfold chars1 charsV
 apply List.map_congr_left
 intro j hj
 rw[if_pos (List.mem_range.1 hj)]
theorem range_next{α:Type}(f:Nat→α)(k:Nat):(List.range (k+1)).map f=(List.range k).map f++[f k]:=by
 rw[List.range_succ,List.map_append];rfl
def refChars:Con:=⟨30,[(false,.str)],[(false,.slice 24 tCh)],fun x=>(x.1:List UInt8).length≤1000000000000,fun x=>(charsV x.1,()),false⟩
set_option maxHeartbeats 4000000 in
theorem refChars_ok:refChars.Ok Tryz.prog:=by
 refine con_q Tryz.func30 rfl (by decide) (fun x hx hp=>go0 nil_ok 400 ?_) (by decide)
 obtain⟨(s:List UInt8),⟨⟩⟩:=x
 have hz:s.length≤1000000000000:=hp
 clear hx hp
 have hcl:=cntV_le s
 simp(maxSteps:=4000000)only[go_sem,reduceIte,reduceCtorEq,Z0,Z1,Z2,Z3,Z4,Z5,Z6,Z7,Z8,Z9,ZA,ZB,ZC,ZD,Tryz.f30,refChars]
 (repeat' first|apply And.intro|intro _)
 refine OkQ.virt 24 tCh ?_
 refine OkQ.loop (α:=Nat) [1,2,3,4,5,6,7,8,10,11,12,13,14,15,16,17,18,19,20,21,22,23,24,25,26,27,28,29,30,31,32,33,34,35,36,37,38,39,40,41,42,43,44,45,46,47,48,49,50,51,52,53,54,55,56,57,58,59,60,61,62,63,64,65,66,67,68] (fun k=>[(3,.s (.sub 1 0 ((List.range k).map (ch0 s)).length))]) (fun k=>[(0,.it s (walkP s k)),(1,.arr false 24 tCh ((List.range k).map (ch0 s)))]) (fun k=>k≤cntV s) (fun k=>s.length - walkP s k) 0 (Nat.zero_le _) ?_ fun k hk=>?_
 ·simp(maxSteps:=4000000)only[go_sem,reduceIte,reduceCtorEq,Z0,Z1,Z2,Z3,Z4,Z5,Z6,Z7,Z8,Z9,ZA,ZB,ZC,ZD]
  all_goals first|rfl|exact⟨rfl,rfl⟩|exact⟨⟨rfl,rfl⟩,rfl,rfl⟩|fail
 have hw:=walkP_le s k
 have hd:=decW s (walkP s k)
 have hcr:((decV s (walkP s k)).1:Int)=chrAt s k:=rfl
 have hrl:((List.range k).map (ch0 s)).length=k:=by simp
 rcases Nat.lt_or_ge (walkP s k) s.length with hlt|hge
 ·have dl:decide (walkP s k<s.length)=true:=decide_eq_true hlt
  have hkc:=cnt_out hlt
  refine go0 nil_ok 400 ?_
  simp(maxSteps:=4000000)only[go_sem,reduceIte,reduceCtorEq,Z0,Z1,Z2,Z3,Z4,Z5,Z6,Z7,Z8,Z9,ZA,ZB,ZC,ZD,hcr,dl]
  (repeat' first|apply And.intro|intro _)
  all_goals try first|contradiction|omega
  refine⟨k+1,by omega,by rw[walkP];omega,?_⟩
  rw[range_next]
  simp(maxSteps:=4000000)only[go_sem,reduceIte,reduceCtorEq,Z0,Z1,Z2,Z3,Z4,Z5,Z6,Z7,Z8,Z9,ZA,ZB,ZC,ZD]
  all_goals first|rfl|exact⟨rfl,rfl⟩|exact⟨⟨rfl,rfl⟩,rfl,rfl⟩|fail
 ·have dl:decide (walkP s k<s.length)=false:=decide_eq_false (by omega)
  have hkn:k=cntV s:=by
   rcases Nat.lt_or_ge k (cntV s)with h|h
   ·have:=cnt_in h;omega
   ·omega
  subst hkn
  rw[←chars1_zero]
  refine go0 nil_ok 400 ?_
  simp(maxSteps:=4000000)only[go_sem,reduceIte,reduceCtorEq,Z0,Z1,Z2,Z3,Z4,Z5,Z6,Z7,Z8,Z9,ZA,ZB,ZC,ZD,dl]
  (repeat' first|apply And.intro|intro _)
  refine OkQ.loop (α:=Nat) [1,2,4,5,6,7,8,9,10,11,12,13,14,15,16,17,18,19,20,21,22,23,24,25,26,27,28,29,30,31,32,33,34,35,36,37,38,39,40,41,42,43,44,45,46,47,48,49,50,51,52,53,54,55,56,57,58,59,60,61,62,63,64,65,66,67,68] (fun i=>[(6,.s (.int .i64 (i:Int)))]) (fun i=>[(1,.arr false 24 tCh (chars1 s (cntV s) i))]) (fun i=>i≤cntV s) (fun i=>cntV s - i) 0 (Nat.zero_le _) ?_ fun i hi=>?_
  ·simp(maxSteps:=4000000)only[go_sem,reduceIte,reduceCtorEq,Z0,Z1,Z2,Z3,Z4,Z5,Z6,Z7,Z8,Z9,ZA,ZB,ZC,ZD]
   all_goals first|rfl|exact⟨rfl,rfl⟩|exact⟨⟨rfl,rfl⟩,rfl,rfl⟩|fail
  obtain⟨n,hn⟩:∃n,n=cntV s:=⟨_,rfl⟩
  have hlen:=chars1_len s n i
  have hlen0:=chars1_len s n 0
  rcases Nat.lt_or_ge i n with hlt|hge2
  ·rw[←hn]at hi hcl ⊢
   have dl:decide ((i:Int)<(n:Int))=true:=decide_eq_true (by omega)
   have g1:(chars1 s n i).getD i (0,0,0,false,())=((walkP s i:Int),0,chrAt s i,false,()):=by rw[chars1_at hlt,if_neg (by omega)];rfl
   have hs1:∀y,((chars1 s n i).set i y).getD i (0,0,0,false,())=y:=fun y=>by simp[List.getD_eq_getElem?_getD,hlen,hlt]
   have hs2:∀y y',((chars1 s n i).set i y).set i y'=(chars1 s n i).set i y':=fun y y'=>by simp
   have hwi:wr .i64 ((i:Int)+1)=((i+1:Nat):Int):=wr_succ (by omega)
   have hwn:walkP s (i+1)=walkP s i+widAt s i:=rfl
   have hfit:=dec_fits (cnt_in (by omega:i<cntV s))
   have hww:wr .i64 ((walkP s (i+1):Int) - (walkP s i:Int))=(widAt s i:Int):=by rw[wr_i64 (by unfold widAt at hwn;omega) (by unfold widAt at hwn;omega)];omega
   have hIs:(!decide (chrAt s i=65533)||decide ((widAt s i:Int)=3))=isAt s i:=rfl
   have hset:=chars1_set (s:=s) hlt
   by_cases hl:i+1<n
   ·have d2:decide (((i+1:Nat):Int)<(n:Int))=true:=decide_eq_true (by omega)
    have g2:(chars1 s n i).getD (i+1) (0,0,0,false,())=((walkP s (i+1):Int),0,chrAt s (i+1),false,()):=by rw[chars1_at hl,if_neg (by omega)];rfl
    refine go0 nil_ok 400 ?_
    simp(maxSteps:=4000000)only[go_sem,reduceIte,reduceCtorEq,Z0,Z1,Z2,Z3,Z4,Z5,Z6,Z7,Z8,Z9,ZA,ZB,ZC,ZD,hlen,hlen0,dl,d2,g1,g2,hs1,hs2,hwi,hww,hIs]
    (repeat' first|apply And.intro|intro _)
    all_goals try first|contradiction|omega
    exact⟨i+1,by omega,by omega,rfl,hset⟩
   ·have d2:decide (((i+1:Nat):Int)<(n:Int))=false:=decide_eq_false (by omega)
    have hwl:(s.length:Int)=(walkP s (i+1):Int):=by rw[show i+1=cntV s by omega,cnt_end']
    refine go0 nil_ok 400 ?_
    simp(maxSteps:=4000000)only[go_sem,reduceIte,reduceCtorEq,Z0,Z1,Z2,Z3,Z4,Z5,Z6,Z7,Z8,Z9,ZA,ZB,ZC,ZD,hlen,hlen0,dl,d2,g1,hs1,hs2,hwi,hwl,hww,hIs]
    (repeat' first|apply And.intro|intro _)
    all_goals try first|contradiction|omega
    exact⟨i+1,by omega,by omega,rfl,hset⟩
  ·have e:i=cntV s:=by omega
   subst e
   have dl:decide ((cntV s:Int)<(cntV s:Int))=false:=decide_eq_false (by omega)
   have hl2:=chars1_len s (cntV s) 0
   have hl3:=chars1_len s (cntV s) (cntV s)
   rw[chars1_all]at hl3
   have ht:List.take (cntV s) (charsV s)=charsV s:=List.take_of_length_le (by omega)
   rw[chars1_all]
   refine go0 nil_ok 400 ?_
   simp(maxSteps:=4000000)only[go_sem,reduceIte,reduceCtorEq,Z0,Z1,Z2,Z3,Z4,Z5,Z6,Z7,Z8,Z9,ZA,ZB,ZC,ZD,hl2,dl,ht]
   (repeat' first|apply And.intro|intro _)
   all_goals try first|contradiction|omega
def refTrim:Con:=⟨121,[(false,.str)],[(false,.str)],fun _=>True,fun x=>(trimV x.1,()),false⟩
theorem b32(b:UInt8):((b.toNat:Int)=32)=(b=32):=propext ⟨fun h=>UInt8.toNat_inj.1 (by have:(32:UInt8).toNat=32:=rfl;omega),fun h=>by rw[h];rfl⟩
theorem b9(b:UInt8):((b.toNat:Int)=9)=(b=9):=propext ⟨fun h=>UInt8.toNat_inj.1 (by have:(9:UInt8).toNat=9:=rfl;omega),fun h=>by rw[h];rfl⟩
set_option maxHeartbeats 1000000 in
theorem refTrim_ok:refTrim.Ok Tryz.prog:=by
 refine con_q Tryz.func121 rfl (by decide) (fun x hx hp=>go0 nil_ok 400 ?_) (by decide)
 obtain⟨(s:List UInt8),⟨⟩⟩:=x
 have hz:s.length≤140737488355328:=hx.1
 clear hx hp
 simp(maxSteps:=4000000)only[go_sem,reduceIte,reduceCtorEq,Z0,Z1,Z2,Z3,Z4,Z5,Z6,Z7,Z8,Z9,ZA,ZB,ZC,ZD,Tryz.f121,refTrim]
 (repeat' first|apply And.intro|intro _)
 refine OkQ.loop (α:=List UInt8) [0,1,2,3,4,5,6,7,8,9,10,11,12,13,14,15,16,17,18,19,20,21,22,23,24,25,26,27,28,29,30,31,32,33,34,35,36,37,38,39,40,41,42] (fun u=>[(0,.s (.str u))]) (fun _=>[]) (fun u=>trimL u=trimL s∧u.length≤s.length) (fun u=>u.length) s ⟨rfl,Nat.le_refl _⟩ ?_ fun u hu=>?_
 ·simp(maxSteps:=4000000)only[go_sem,reduceIte,reduceCtorEq,Z0,Z1,Z2,Z3,Z4,Z5,Z6,Z7,Z8,Z9,ZA,ZB,ZC,ZD]
  all_goals first|rfl|fail
 obtain⟨hu,hul⟩:=hu
 cases u with
 |nil=>
  have c0:((0:Nat):Int)=0:=rfl
  have hv:trimV s=[]:=by rw[trimV_left,←hu];rfl
  refine run_ok (Cs:=[]) (stp:=[]) (inl:=[]) (unr:=true) nil_ok 100 _ _ _ _ ?_
  simp(maxSteps:=4000000)only[go_sem,reduceIte,reduceCtorEq,Z0,Z1,Z2,Z3,Z4,Z5,Z6,Z7,Z8,Z9,ZA,ZB,ZC,ZD,c0,hv]
  (repeat' first|apply And.intro|intro _)
  all_goals contradiction
 |cons b u=>
  have d1:decide (0<((u.length+1:Nat):Int))=true:=decide_eq_true (by omega)
  have hg:(b::u).getD 0 0=b:=rfl
  have e32:=b32 b
  have e9:=b9 b
  by_cases hb:isBl b=true
  ·have hbl:trimL (b::u)=trimL u:=by unfold trimL;rw[List.dropWhile_cons,if_pos hb]
   rw[hbl]at hu
   have ht:List.take (u.length+1 - 1) (List.drop 1 (b::u))=u:=by simp
   by_cases h1:b=32
   ·have d2:decide ((b.toNat:Int)=32)=true:=decide_eq_true (by rw[e32];exact h1)
    refine go0 nil_ok 60 ?_
    simp(maxSteps:=4000000)only[go_sem,reduceIte,reduceCtorEq,Z0,Z1,Z2,Z3,Z4,Z5,Z6,Z7,Z8,Z9,ZA,ZB,ZC,ZD,d1,d2,hg,ht]
    (repeat' first|apply And.intro|intro _)
    all_goals try first|contradiction|omega
    exact⟨u,⟨hu,by simp at hul;omega⟩,by omega,by simp⟩
   ·have d2:decide ((b.toNat:Int)=32)=false:=decide_eq_false (by rw[e32];exact h1)
    have h2:b=9:=((isBl_iff b).1 hb).resolve_left h1
    have d3:decide ((b.toNat:Int)=9)=true:=decide_eq_true (by rw[e9];exact h2)
    refine go0 nil_ok 60 ?_
    simp(maxSteps:=4000000)only[go_sem,reduceIte,reduceCtorEq,Z0,Z1,Z2,Z3,Z4,Z5,Z6,Z7,Z8,Z9,ZA,ZB,ZC,ZD,d1,d2,d3,hg,ht]
    (repeat' first|apply And.intro|intro _)
    all_goals try first|contradiction|omega
    exact⟨u,⟨hu,by simp at hul;omega⟩,by omega,by simp⟩
  ·have hn:¬(b=32∨b=9):=fun h=>hb ((isBl_iff b).2 h)
   have d2:decide ((b.toNat:Int)=32)=false:=decide_eq_false (by rw[e32];exact fun h=>hn (.inl h))
   have d3:decide ((b.toNat:Int)=9)=false:=decide_eq_false (by rw[e9];exact fun h=>hn (.inr h))
   have hv:trimV s=trimR (b::u):=by
    rw[trimV_left,←hu]
    congr 1
    unfold trimL
    rw[List.dropWhile_cons,if_neg hb]
   refine go0 nil_ok 60 ?_
   simp(maxSteps:=4000000)only[go_sem,reduceIte,reduceCtorEq,Z0,Z1,Z2,Z3,Z4,Z5,Z6,Z7,Z8,Z9,ZA,ZB,ZC,ZD,d1,d2,d3,hg,hv]
   (repeat' first|apply And.intro|intro _)
   all_goals try first|contradiction|omega
   refine OkQ.loop (α:=List UInt8) [0,1,2,3,4,5,6,7,8,9,10,11,12,13,14,15,16,17,18,19,20,21,22,23,24,25,26,27,28,29,30,31,32,33,34,35,36,37,38,39,40,41,42] (fun v=>[(0,.s (.str v))]) (fun _=>[]) (fun v=>trimR v=trimR (b::u)∧v.length≤s.length) (fun v=>v.length) (b::u) ⟨rfl,hul⟩ ?_ fun v hv2=>?_
   ·simp(maxSteps:=4000000)only[go_sem,reduceIte,reduceCtorEq,Z0,Z1,Z2,Z3,Z4,Z5,Z6,Z7,Z8,Z9,ZA,ZB,ZC,ZD]
    all_goals first|rfl|fail
   obtain⟨hv2,hvl⟩:=hv2
   by_cases hnil:v=[]
   ·subst hnil
    have c0:((0:Nat):Int)=0:=rfl
    have hr:trimR (b::u)=[]:=hv2.symm
    refine go0 nil_ok 100 ?_
    simp(maxSteps:=4000000)only[go_sem,reduceIte,reduceCtorEq,Z0,Z1,Z2,Z3,Z4,Z5,Z6,Z7,Z8,Z9,ZA,ZB,ZC,ZD,c0,hr]
    (repeat' first|apply And.intro|intro _)
    all_goals first|contradiction|fail
   ·obtain⟨p,c,rfl⟩:∃p c,v=p++[c]:=⟨v.dropLast,v.getLast hnil,(List.dropLast_concat_getLast hnil).symm⟩
    have hpl:p.length+1≤s.length:=by simpa using hvl
    have k1:decide (0<((p.length+1:Nat):Int))=true:=decide_eq_true (by omega)
    have hw:wr .i64 (((p.length+1:Nat):Int) - 1)=(p.length:Int):=by rw[wr_i64 (by omega) (by omega)];omega
    have hg2:(p++[c]).getD p.length 0=c:=by simp[List.getD_eq_getElem?_getD]
    have ht:List.take p.length (p++[c])=p:=by simp
    have f32:=b32 c
    have f9:=b9 c
    rw[trimR_snoc]at hv2
    by_cases hc:isBl c=true
    ·rw[if_pos hc]at hv2
     by_cases h1:c=32
     ·have k2:decide ((c.toNat:Int)=32)=true:=decide_eq_true (by rw[f32];exact h1)
      refine go0 nil_ok 60 ?_
      simp(maxSteps:=4000000)only[go_sem,reduceIte,reduceCtorEq,Z0,Z1,Z2,Z3,Z4,Z5,Z6,Z7,Z8,Z9,ZA,ZB,ZC,ZD,k1,k2,hw,hg2,ht]
      (repeat' first|apply And.intro|intro _)
      all_goals try first|contradiction|omega
      exact⟨p,⟨hv2,by omega⟩,by omega,rfl⟩
     ·have k2:decide ((c.toNat:Int)=32)=false:=decide_eq_false (by rw[f32];exact h1)
      have h2:c=9:=((isBl_iff c).1 hc).resolve_left h1
      have k3:decide ((c.toNat:Int)=9)=true:=decide_eq_true (by rw[f9];exact h2)
      refine go0 nil_ok 60 ?_
      simp(maxSteps:=4000000)only[go_sem,reduceIte,reduceCtorEq,Z0,Z1,Z2,Z3,Z4,Z5,Z6,Z7,Z8,Z9,ZA,ZB,ZC,ZD,k1,k2,k3,hw,hg2,ht]
      (repeat' first|apply And.intro|intro _)
      all_goals try first|contradiction|omega
      exact⟨p,⟨hv2,by omega⟩,by omega,rfl⟩
    ·rw[if_neg hc]at hv2
     have hn:¬(c=32∨c=9):=fun h=>hc ((isBl_iff c).2 h)
     have k2:decide ((c.toNat:Int)=32)=false:=decide_eq_false (by rw[f32];exact fun h=>hn (.inl h))
     have k3:decide ((c.toNat:Int)=9)=false:=decide_eq_false (by rw[f9];exact fun h=>hn (.inr h))
     have hv3:=hv2.symm
     refine go0 nil_ok 60 ?_
     simp(maxSteps:=4000000)only[go_sem,reduceIte,reduceCtorEq,Z0,Z1,Z2,Z3,Z4,Z5,Z6,Z7,Z8,Z9,ZA,ZB,ZC,ZD,k1,k2,k3,hw,hg2,hv3]
     (repeat' first|apply And.intro|intro _)
     all_goals try first|contradiction|omega
end Go.Proofs.YtcbmonndkjihkaaGreatDoor.Sx
namespace Go.Proofs.YtcbmonndkjihkaaGreatDoor.Sx
attribute [local irreducible] OkQ Ok
set_option linter.unusedSimpArgs false
set_option linter.unusedVariables false
open Nat renaming reduceEqDiff→Z0,reduceBEq→Z1,reduceAdd→Z2,reduceSub→Z3,reduceMul→Z4,reduceLeDiff→Z5
open Int renaming reduceEq→Z6,reduceLE→Z7,reduceLT→Z8,reduceNeg→Z9,reduceToNat→ZA,reduceAdd→ZB,reduceSub→ZC,reduceMul→ZD
set_option maxRecDepth 8000
theorem take_in{s:List UInt8}{d:UInt8}{i:Nat}(h:i<s.length)(h0:∀x∈s.take i,x≠d)(h1:s.getD i 0≠d):∀x∈s.take (i+1),x≠d:=by
 intro x hx
 rw[List.take_succ_eq_append_getElem h]at hx
 rcases List.mem_append.1 hx with hx|hx
 ·exact h0 x hx
 ·have e:s.getD i 0=s[i]:=by simp[List.getD_eq_getElem?_getD,h]
  rw[List.mem_singleton.1 hx,←e]
  exact h1
theorem byteE(a d:UInt8):((a.toNat:Int)=(d.toNat:Int))=(a=d):=propext ⟨fun h=>UInt8.toNat_inj.1 (by omega),fun h=>by rw[h]⟩
def refUntil:Con:=⟨100,[(false,.str),(false,.int .u8)],[(false,.str),(false,.str),(false,.bool)],fun _=>True,fun x=>(cutA x.1 (UInt8.ofNat (x.2.1:Int).toNat),cutB1 x.1 (UInt8.ofNat (x.2.1:Int).toNat),cutIs x.1 (UInt8.ofNat (x.2.1:Int).toNat),()),false⟩
set_option maxHeartbeats 1000000 in
theorem refUntil_ok:refUntil.Ok Tryz.prog:=by
 refine con_q Tryz.func100 rfl (by decide) (fun x hx hp=>go0 nil_ok 400 ?_) (by decide)
 obtain⟨(s:List UInt8),(c:Int),⟨⟩⟩:=x
 have hz:s.length≤140737488355328:=hx.1
 have hc:0≤c∧c≤255:=by
  have:IntKind.u8.has c:=hx.2.1
  simpa[IntKind.has,IntKind.min,IntKind.max,IntKind.signed,IntKind.bits]using this
 obtain⟨d,hd⟩:∃d:UInt8,d=UInt8.ofNat c.toNat:=⟨_,rfl⟩
 have hcd:c=(d.toNat:Int):=by
  rw[hd]
  simp
  omega
 clear hx hp
 simp(maxSteps:=4000000)only[go_sem,reduceIte,reduceCtorEq,Z0,Z1,Z2,Z3,Z4,Z5,Z6,Z7,Z8,Z9,ZA,ZB,ZC,ZD,Tryz.f100,refUntil]
 rw[←hd]
 (repeat' first|apply And.intro|intro _|(show staB _ _=true;kernel_rfl)|(show dynB _ _=true;kernel_rfl)|(show dynP _ _ _=true;kernel_rfl))
 refine OkQ.loop (α:=Nat) [2,3,4,5,6,7,8,9,10,11,12,13,14,15,16,17,18,19,20,21,22,23,24,25,26] (fun i=>[(7,.s (.int .i64 (i:Int)))]) (fun _=>[]) (fun i=>i≤s.length∧∀x∈s.take i,x≠d) (fun i=>s.length - i) 0 ⟨Nat.zero_le _,by simp⟩ ?_ fun i hi=>?_
 ·simp(maxSteps:=4000000)only[go_sem,reduceIte,reduceCtorEq,Z0,Z1,Z2,Z3,Z4,Z5,Z6,Z7,Z8,Z9,ZA,ZB,ZC,ZD]
  all_goals first|rfl|fail
 obtain⟨hi,h0⟩:=hi
 rcases Nat.lt_or_ge i s.length with hlt|hge
 ·have dl:decide ((i:Int)<(s.length:Int))=true:=decide_eq_true (by omega)
  have hs:s=s.take i++s.getD i 0::s.drop (i+1):=by
   have e:s.getD i 0=s[i]:=by simp[List.getD_eq_getElem?_getD,hlt]
   rw[e,←List.drop_eq_getElem_cons hlt,List.take_append_drop]
  have hw:wr .i64 ((i:Int)+1)=((i+1:Nat):Int):=wr_succ (by omega)
  by_cases hb:s.getD i 0=d
  ·have db:decide (((s.getD i 0).toNat:Int)=c)=true:=decide_eq_true (by rw[hcd,byteE];exact hb)
   rw[hb]at hs
   obtain⟨e1,e2,e3⟩:=cut_at (s:=s.drop (i+1)) h0
   rw[←hs]at e1 e2 e3
   have ht:List.take (s.length - (i+1)) (List.drop (i+1) s)=List.drop (i+1) s:=List.take_of_length_le (by simp)
   refine go0 nil_ok 400 ?_
   simp(maxSteps:=4000000)only[go_sem,reduceIte,reduceCtorEq,Z0,Z1,Z2,Z3,Z4,Z5,Z6,Z7,Z8,Z9,ZA,ZB,ZC,ZD,dl,db,hw,ht,e1,e2,e3]
   (repeat' first|apply And.intro|intro _|(show staB _ _=true;kernel_rfl)|(show dynB _ _=true;kernel_rfl)|(show dynP _ _ _=true;kernel_rfl))
   all_goals first|contradiction|omega|(simp;omega)|fail
  ·have db:decide (((s.getD i 0).toNat:Int)=c)=false:=decide_eq_false (by rw[hcd,byteE];exact hb)
   refine go0 nil_ok 400 ?_
   simp(maxSteps:=4000000)only[go_sem,reduceIte,reduceCtorEq,Z0,Z1,Z2,Z3,Z4,Z5,Z6,Z7,Z8,Z9,ZA,ZB,ZC,ZD,dl,db,hw]
   (repeat' first|apply And.intro|intro _|(show staB _ _=true;kernel_rfl)|(show dynB _ _=true;kernel_rfl)|(show dynP _ _ _=true;kernel_rfl))
   all_goals try first|contradiction|omega
   exact⟨i+1,⟨by omega,take_in hlt h0 hb⟩,by omega,rfl⟩
 ·have e:i=s.length:=by omega
  subst e
  have dl:decide ((s.length:Int)<(s.length:Int))=false:=decide_eq_false (by omega)
  rw[List.take_length]at h0
  obtain⟨e1,e2,e3⟩:=cut_none h0
  refine go0 nil_ok 400 ?_
  simp(maxSteps:=4000000)only[go_sem,reduceIte,reduceCtorEq,Z0,Z1,Z2,Z3,Z4,Z5,Z6,Z7,Z8,Z9,ZA,ZB,ZC,ZD,dl,e1,e2,e3]
  (repeat' first|apply And.intro|intro _|(show staB _ _=true;kernel_rfl)|(show dynB _ _=true;kernel_rfl)|(show dynP _ _ _=true;kernel_rfl))
  all_goals first|contradiction|omega|fail
def refFields:Con:=⟨102,[(false,.str)],[(false,.slice 16 .str)],fun x=>(x.1:List UInt8).length≤1000000000000,fun x=>(fieldsV x.1,()),false⟩
set_option maxHeartbeats 1000000 in
theorem refFields_ok:refFields.Ok Tryz.prog:=by
 refine con_q Tryz.func102 rfl (by decide) (fun x hx hp=>go0 (cons_ok refTrim_ok nil_ok) 0 ?_) (by decide)
 obtain⟨(s:List UInt8),⟨⟩⟩:=x
 have hz:s.length≤1000000000000:=hp
 clear hx hp
 by_cases h0:trimV s=[]
 ·have d0:=dT h0
  have hf:fieldsV s=[]:=if_pos h0
  refine go0 (cons_ok refTrim_ok nil_ok) 400 ?_
  simp(maxSteps:=4000000)only[go_sem,reduceIte,reduceCtorEq,Z0,Z1,Z2,Z3,Z4,Z5,Z6,Z7,Z8,Z9,ZA,ZB,ZC,ZD,Tryz.f102,refFields,d0,hf,refTrim]
  (repeat' first|apply And.intro|intro _)
 have d0:=dF h0
 have hf:fieldsV s=(splitV 59 s).map trimV:=if_neg h0
 refine go0 (cons_ok refTrim_ok nil_ok) 400 ?_
 simp(maxSteps:=4000000)only[go_sem,reduceIte,reduceCtorEq,Z0,Z1,Z2,Z3,Z4,Z5,Z6,Z7,Z8,Z9,ZA,ZB,ZC,ZD,Tryz.f102,refFields,d0,hf,refTrim]
 (repeat' first|apply And.intro|intro _)
 refine OkQ.virt 16 .str ?_
 refine OkQ.loop (α:=List UInt8×List (List UInt8)) [0,1,2,3,4,5,6,7,8,9,10,11,12,13,14,15,16,17,18,19,20,21,22,23,24] (fun x=>[(0,.s (.str x.1)),(3,.s (.sub 0 0 x.2.length))]) (fun x=>[(0,.arr false 16 .str x.2)]) (fun x=>(splitV 59 s).map trimV=x.2++(splitV 59 x.1).map trimV∧x.2.length+x.1.length≤s.length) (fun x=>x.1.length) (s,[]) ⟨by simp,by simp⟩ ?_ fun x hx=>?_
 ·simp(maxSteps:=4000000)only[go_sem,reduceIte,reduceCtorEq,Z0,Z1,Z2,Z3,Z4,Z5,Z6,Z7,Z8,Z9,ZA,ZB,ZC,ZD,refTrim]
  all_goals first|rfl|exact⟨rfl,rfl⟩|exact⟨⟨rfl,rfl⟩,rfl⟩|fail
 obtain⟨u,done⟩:=x
 obtain⟨hs,hl⟩:=hx
 dsimp only at hs hl ⊢
 have hcut:=split_cut 59 u
 have ho:UInt8.ofNat 59=59:=rfl
 have hlA:=cutA_len u 59
 have ht:=trim_len (cutA u 59)
 cases hI:cutIs u 59
 ·rw[hI]at hcut
  rw[hcut]at hs
  refine go0 (cons_ok refTrim_ok (cons_ok refUntil_ok nil_ok)) 400 ?_
  simp(maxSteps:=4000000)only[go_sem,reduceIte,reduceCtorEq,Z0,Z1,Z2,Z3,Z4,Z5,Z6,Z7,Z8,Z9,ZA,ZB,ZC,ZD,ho,hI,refTrim,refUntil]
  (repeat' first|apply And.intro|intro _)
  all_goals first|contradiction|omega|(rw[hs];simp;done)|(rw[hs];exact List.take_of_length_le (by simp))|fail
 ·rw[hI]at hcut
  rw[hcut]at hs
  have hne:u≠[]:=by rintro rfl;simp[cutIs,Lib.indexByte]at hI
  have hlt:=cutB1_lt (c:=59) hne
  refine go0 (cons_ok refTrim_ok (cons_ok refUntil_ok nil_ok)) 400 ?_
  simp(maxSteps:=4000000)only[go_sem,reduceIte,reduceCtorEq,Z0,Z1,Z2,Z3,Z4,Z5,Z6,Z7,Z8,Z9,ZA,ZB,ZC,ZD,ho,hI,refTrim,refUntil]
  (repeat' first|apply And.intro|intro _)
  all_goals try first|contradiction|omega
  refine⟨(cutB1 u 59,done++[trimV (cutA u 59)]),⟨by rw[hs];simp,by simp;omega⟩,by dsimp only;omega,?_⟩
  simp(maxSteps:=4000000)only[go_sem,reduceIte,reduceCtorEq,Z0,Z1,Z2,Z3,Z4,Z5,Z6,Z7,Z8,Z9,ZA,ZB,ZC,ZD,refTrim,refUntil]
  all_goals first|rfl|exact⟨rfl,rfl⟩|simp|fail
def refParts:Con:=⟨98,[(false,.str)],[(false,.str),(false,.str)],fun _=>True,fun x=>(lhdV x.1,noteV x.1,()),false⟩
theorem refParts_ok:refParts.Ok Tryz.prog:=by
 refine con_q Tryz.func98 rfl (by decide) (fun x hx hp=>go0 (cons_ok refUntil_ok (cons_ok refTrim_ok nil_ok)) 400 ?_) (by decide)
 obtain⟨(s:List UInt8),⟨⟩⟩:=x
 have ho:UInt8.ofNat 35=35:=rfl
 clear hx hp
 simp(maxSteps:=4000000)only[go_sem,reduceIte,reduceCtorEq,Z0,Z1,Z2,Z3,Z4,Z5,Z6,Z7,Z8,Z9,ZA,ZB,ZC,ZD,Tryz.f98,refParts,ho,refUntil,refTrim]
 (repeat' first|apply And.intro|intro _)
 all_goals first|rfl|fail
def refCut03:Con:=⟨99,[(false,.str)],[(false,.slice 16 .str),(false,.str)],fun x=>(x.1:List UInt8).length≤1000000000000,fun x=>(fieldsV (cutA x.1 35),noteV x.1,()),false⟩
theorem refCut03_ok:refCut03.Ok Tryz.prog:=by
 refine con_q Tryz.func99 rfl (by decide) (fun x hx hp=>go0 (cons_ok refParts_ok (cons_ok refFields_ok nil_ok)) 400 ?_) (by decide)
 obtain⟨(s:List UInt8),⟨⟩⟩:=x
 have hz:s.length≤1000000000000:=hp
 have hl:=head_len s
 have hf:=fields_head s
 clear hx hp
 simp(maxSteps:=4000000)only[go_sem,reduceIte,reduceCtorEq,Z0,Z1,Z2,Z3,Z4,Z5,Z6,Z7,Z8,Z9,ZA,ZB,ZC,ZD,Tryz.f99,refCut03,hf,refParts,refFields]
 (repeat' first|apply And.intro|intro _)
 all_goals first|rfl|omega|fail
end Go.Proofs.YtcbmonndkjihkaaGreatDoor.Sx
namespace Go.Proofs.YtcbmonndkjihkaaGreatDoor.Sx
attribute [local irreducible] OkQ Ok
set_option linter.unusedSimpArgs false
set_option linter.unusedVariables false
open Nat renaming reduceEqDiff→Z0,reduceBEq→Z1,reduceAdd→Z2,reduceSub→Z3,reduceMul→Z4,reduceLeDiff→Z5
open Int renaming reduceEq→Z6,reduceLE→Z7,reduceLT→Z8,reduceNeg→Z9,reduceToNat→ZA,reduceAdd→ZB,reduceSub→ZC,reduceMul→ZD
set_option maxRecDepth 8000
theorem take_all{s:List UInt8}{p:UInt8→Bool}{i:Nat}(h:i<s.length)(h0:(s.take i).all p=true)(h1:p (s.getD i 0)=true):(s.take (i+1)).all p=true:=by
 have e:s.getD i 0=s[i]:=by simp[List.getD_eq_getElem?_getD,h]
 rw[List.take_succ_eq_append_getElem h,List.all_append,h0,←e,List.all_cons,h1]
 rfl
theorem not_all{s:List UInt8}{p:UInt8→Bool}{i:Nat}(h:i<s.length)(h1:p (s.getD i 0)=false):s.all p=false:=by
 have e:s.getD i 0=s[i]:=by simp[List.getD_eq_getElem?_getD,h]
 rw[List.all_eq_false]
 exact⟨s[i],List.getElem_mem h,by rw[←e,h1];simp⟩
def refNamed:Con:=⟨101,[(false,.str)],[(false,.bool)],fun _=>True,fun x=>(namedV x.1,()),false⟩
set_option maxHeartbeats 1000000 in
theorem refNamed_ok:refNamed.Ok Tryz.prog:=by
 refine con_q Tryz.func101 rfl (by decide) (fun x hx hp=>go0 nil_ok 400 ?_) (by decide)
 obtain⟨(s:List UInt8),⟨⟩⟩:=x
 have hz:s.length≤140737488355328:=hx.1
 clear hx hp
 have hnb:=named_bytes s
 simp(maxSteps:=4000000)only[go_sem,reduceIte,reduceCtorEq,Z0,Z1,Z2,Z3,Z4,Z5,Z6,Z7,Z8,Z9,ZA,ZB,ZC,ZD,Tryz.f101,refNamed]
 (repeat' first|apply And.intro|intro _)
 refine OkQ.loop (α:=Nat) [1,2,3,4,5,6,7,8,9,10,11,12,13,14,15,16,17,18,19,20,21,22,23,24,25,26,27,28,29,30,31,32,33,34,35,36,37,38,39,40,41,42,43,44,45,46] (fun i=>[(3,.s (.int .i64 (i:Int)))]) (fun _=>[]) (fun i=>i≤s.length∧(s.take i).all okB=true) (fun i=>s.length - i) 0 ⟨Nat.zero_le _,by simp⟩ ?_ fun i hi=>?_
 ·simp(maxSteps:=4000000)only[go_sem,reduceIte,reduceCtorEq,Z0,Z1,Z2,Z3,Z4,Z5,Z6,Z7,Z8,Z9,ZA,ZB,ZC,ZD]
  all_goals first|rfl|fail
 obtain⟨hi,h0⟩:=hi
 rcases Nat.lt_or_ge i s.length with hlt|hge
 ·have dl:decide ((i:Int)<(s.length:Int))=true:=decide_eq_true (by omega)
  cases hb:okB (s.getD i 0)
  ·have hb':¬okN ((s.getD i 0).toNat:Int):=of_decide_eq_false hb
   have hf:namedV s=false:=by rw[hnb,not_all hlt hb,Bool.and_false]
   unfold okN at hb'
   refine go0 nil_ok 400 ?_
   simp(maxSteps:=4000000)only[go_sem,reduceIte,reduceCtorEq,Z0,Z1,Z2,Z3,Z4,Z5,Z6,Z7,Z8,Z9,ZA,ZB,ZC,ZD,dl,hf]
   (repeat' first|apply And.intro|intro _)
   all_goals first|contradiction|omega|(exfalso;omega)|fail
  ·have hb':okN ((s.getD i 0).toNat:Int):=of_decide_eq_true hb
   have hn:=take_all hlt h0 hb
   unfold okN at hb'
   refine go0 nil_ok 400 ?_
   simp(maxSteps:=4000000)only[go_sem,reduceIte,reduceCtorEq,Z0,Z1,Z2,Z3,Z4,Z5,Z6,Z7,Z8,Z9,ZA,ZB,ZC,ZD,dl]
   (repeat' first|apply And.intro|intro _)
   all_goals first|contradiction|omega|(exfalso;omega)|exact⟨i+1,⟨by omega,hn⟩,by omega,wr_succ (by omega)⟩|fail
 ·have e:i=s.length:=by omega
  subst e
  have dl:decide ((s.length:Int)<(s.length:Int))=false:=decide_eq_false (by omega)
  rw[List.take_length]at h0
  rw[h0,Bool.and_true]at hnb
  refine go0 nil_ok 400 ?_
  simp(maxSteps:=4000000)only[go_sem,reduceIte,reduceCtorEq,Z0,Z1,Z2,Z3,Z4,Z5,Z6,Z7,Z8,Z9,ZA,ZB,ZC,ZD,dl,hnb]
  (repeat' first|apply And.intro|intro _)
  all_goals first|contradiction|omega|(simp;done)|fail
def refMarked:Con:=⟨96,[(false,.str)],[(false,.int .i64)],fun _=>True,fun x=>((bomN x.1:Int),()),false⟩
set_option maxHeartbeats 1000000 in
theorem refMarked_ok:refMarked.Ok Tryz.prog:=by
 refine con_q Tryz.func96 rfl (by decide) (fun x hx hp=>go0 nil_ok 400 ?_) (by decide)
 obtain⟨(s:List UInt8),⟨⟩⟩:=x
 clear hx hp
 have hb:bomN s=if 3≤s.length∧s.getD 0 0=239∧s.getD 1 0=187∧s.getD 2 0=191 then 3 else 0:=by
  unfold bomN
  congr 1
  exact propext (hp3 s 239 187 191)
 have e0:∀b:UInt8,((b.toNat:Int)=239)=(b=239):=fun b=>byteE b 239
 have e1:∀b:UInt8,((b.toNat:Int)=187)=(b=187):=fun b=>byteE b 187
 have e2:∀b:UInt8,((b.toNat:Int)=191)=(b=191):=fun b=>byteE b 191
 simp(maxSteps:=4000000)only[go_sem,reduceIte,reduceCtorEq,Z0,Z1,Z2,Z3,Z4,Z5,Z6,Z7,Z8,Z9,ZA,ZB,ZC,ZD,Tryz.f96,refMarked]
 (repeat' first|apply And.intro|intro _)
 all_goals try first|contradiction|omega
 ·rename_i h
  obtain⟨⟨⟨h1,h2⟩,h3⟩,h4⟩:=h
  rw[e0]at h2
  rw[e1]at h3
  rw[e2]at h4
  rw[hb,if_pos ⟨by omega,h2,h3,h4⟩]
  rfl
 ·rename_i h
  rw[e0,e1,e2]at h
  rw[hb,if_neg fun q=>by
   rcases h with((h|h)|h)|h
   ·omega
   ·exact h q.2.1
   ·exact h q.2.2.1
   ·exact h q.2.2.2]
  rfl
def hasB(p:PcD):Bool:=!decide (p.1=p.2.2.1)
def refPcs(t:List UInt8):List PcD:=(pcsV t).filter hasB
theorem idx_from{t:List UInt8}{a i:Nat}(ha:a≤i)(hi:i<t.length)(h0:∀x∈(t.drop a).take (i - a),x≠10)(h1:t.getD i 0=10):Lib.indexByte (t.drop a) 10=((i - a:Nat):Int):=by
 have hd:=getD_mem ha hi
 rw[h1]at hd
 rw[hd,idx_at h0]
 simp
 omega
theorem pcs_at{t:List UInt8}{f a i:Nat}(ha:a≤i)(hi:i<t.length)(h0:∀x∈(t.drop a).take (i - a),x≠10)(h1:t.getD i 0=10):
 pcsFrom t (f+1) a=((a:Int),((i - crN t a (i - a):Nat):Int),((i+1:Nat):Int),())::pcsFrom t f (i+1):=by
 have e:=idx_from ha hi h0 h1
 have hc:crN t a (i - a)≤i - a:=by unfold crN;split<;>omega
 rw[pcsFrom,if_neg (by rw[e];omega),e,Int.toNat_natCast,show a+(i - a)=i by omega]
theorem pcs_end{t:List UInt8}{f a:Nat}(h0:∀x∈t.drop a,x≠10):pcsFrom t (f+1) a=[((a:Int),(t.length:Int),(t.length:Int),())]:=by
 rw[pcsFrom,if_pos (by rw[idx_none h0];decide)]
theorem sc_filter(t:List UInt8):∀f a no out,scFold t no ((pcsFrom t f a).filter hasB) out=scFold t no (pcsFrom t f a) out
 |0,_,_,_=>rfl
 |f+1,a,no,out=>by
  rw[pcsFrom]
  split
  ·by_cases h:(a:Int)=(t.length:Int)
   ·rw[List.filter_cons,if_neg (by simp[hasB,h]),List.filter_nil,scFold,scFold,if_pos h]
   ·rw[List.filter_cons,if_pos (by simp[hasB];omega),List.filter_nil]
  ·rename_i h
   rw[List.filter_cons,if_pos (by simp[hasB];omega),scFold,scFold,sc_filter t f]
theorem sc_ref(t:List UInt8):scFold t 1 (refPcs t) []=linesV t:=sc_filter t _ _ 1 []
def refPieces:Con:=⟨67,[(false,.str)],[(false,.slice 24 tPc)],fun x=>(x.1:List UInt8).length≤100000000000,fun x=>(refPcs x.1,()),false⟩
set_option maxHeartbeats 4000000 in
theorem refPieces_ok:refPieces.Ok Tryz.prog:=by
 refine con_q Tryz.func67 rfl (by decide) (fun x hx hp=>go0 (cons_ok refMarked_ok nil_ok) 400 ?_) (by decide)
 obtain⟨(t:List UInt8),⟨⟩⟩:=x
 have hz:t.length≤100000000000:=hp
 clear hx hp
 have hbl:=bom_len t
 simp(maxSteps:=4000000)only[go_sem,reduceIte,reduceCtorEq,Z0,Z1,Z2,Z3,Z4,Z5,Z6,Z7,Z8,Z9,ZA,ZB,ZC,ZD,Tryz.f67,refPieces,refMarked]
 (repeat' first|apply And.intro|intro _)
 refine OkQ.virt 24 tPc ?_
 refine OkQ.loop (α:=List PcD×Nat×Nat) [1,2,3,4,5,6,7,8,9,10,11,12,13,14,15,16,17,18,19,20,21,22,23,24,25,26,27,28,29,30,31,32,33,34,35,36,37,38,39,40,41,42,43,44,45,46,47,48,49,50,51,52,53,54,55,56] (fun x=>[(3,.s (.sub 0 0 x.1.length)),(4,.s (.int .i64 (x.2.1:Int))),(5,.s (.int .i64 (x.2.2:Int)))]) (fun x=>[(0,.arr false 24 tPc x.1)])
  (fun x=>x.2.1≤x.2.2∧x.2.2≤t.length∧x.1.length≤x.2.1∧(∀y∈(t.drop x.2.1).take (x.2.2 - x.2.1),y≠10)∧∃f,t.length+1 - x.2.1≤f∧refPcs t=x.1++(pcsFrom t f x.2.1).filter hasB) (fun x=>t.length - x.2.2) ([],bomN t,bomN t) ⟨Nat.le_refl _,hbl,Nat.zero_le _,by simp,t.length+1,by omega,rfl⟩ ?_ fun x hx=>?_
 ·simp(maxSteps:=4000000)only[go_sem,reduceIte,reduceCtorEq,Z0,Z1,Z2,Z3,Z4,Z5,Z6,Z7,Z8,Z9,ZA,ZB,ZC,ZD,refMarked]
  all_goals first|rfl|exact⟨rfl,rfl⟩|exact⟨⟨rfl,rfl⟩,rfl⟩|fail
 obtain⟨done,a,i⟩:=x
 obtain⟨hai,hi,hdl,h0,f,hf,hd⟩:=hx
 dsimp only at hai hi hdl h0 hf hd ⊢
 obtain⟨f,rfl⟩:∃f',f=f'+1:=⟨f - 1,by omega⟩
 rcases Nat.lt_or_ge i t.length with hlt|hge
 ·have dl:decide ((i:Int)<(t.length:Int))=true:=decide_eq_true (by omega)
  have hw:wr .i64 ((i:Int)+1)=((i+1:Nat):Int):=wr_succ (by omega)
  by_cases hb:t.getD i 0=10
  ·have db:decide (((t.getD i 0).toNat:Int)=10)=true:=decide_eq_true (by rw[hb];rfl)
   rw[pcs_at hai hlt h0 hb,List.filter_cons,if_pos (by simp[hasB];omega)]at hd
   have hnil:∀y∈(t.drop (i+1)).take (i+1 - (i+1)),y≠10:=by simp
   by_cases hp:a<i
   ·have dp:decide ((a:Int)<(i:Int))=true:=decide_eq_true (by omega)
    have w3:wr .i64 ((i:Int) - 1)=((i - 1:Nat):Int):=by rw[wr_i64 (by omega) (by omega)];omega
    by_cases hc:t.getD (i - 1) 0=13
    ·have dc:decide (((t.getD (i - 1) 0).toNat:Int)=13)=true:=decide_eq_true (by rw[byte13];exact hc)
     have hcr:crN t a (i - a)=1:=if_pos ⟨by omega,by rw[show a+(i - a) - 1=i - 1 by omega];exact hc⟩
     rw[hcr]at hd
     refine go0 (cons_ok refMarked_ok nil_ok) 400 ?_
     simp(maxSteps:=4000000)only[go_sem,reduceIte,reduceCtorEq,Z0,Z1,Z2,Z3,Z4,Z5,Z6,Z7,Z8,Z9,ZA,ZB,ZC,ZD,dl,db,dp,dc,hw,w3,refMarked]
     (repeat' first|apply And.intro|intro _)
     all_goals try first|contradiction|omega
     refine⟨(done++[((a:Int),((i - 1:Nat):Int),((i+1:Nat):Int),())],i+1,i+1),⟨Nat.le_refl _,by dsimp only;omega,by simp;omega,hnil,f,by dsimp only;omega,by rw[hd];simp⟩,by dsimp only;omega,?_⟩
     simp(maxSteps:=4000000)only[go_sem,reduceIte,reduceCtorEq,Z0,Z1,Z2,Z3,Z4,Z5,Z6,Z7,Z8,Z9,ZA,ZB,ZC,ZD,refMarked]
     all_goals first|rfl|exact⟨rfl,rfl⟩|simp|fail
    ·have dc:decide (((t.getD (i - 1) 0).toNat:Int)=13)=false:=decide_eq_false (by rw[byte13];exact hc)
     have hcr:crN t a (i - a)=0:=if_neg fun h=>hc (by have:=h.2;rwa [show a+(i - a) - 1=i - 1 by omega]at this)
     rw[hcr]at hd
     refine go0 (cons_ok refMarked_ok nil_ok) 400 ?_
     simp(maxSteps:=4000000)only[go_sem,reduceIte,reduceCtorEq,Z0,Z1,Z2,Z3,Z4,Z5,Z6,Z7,Z8,Z9,ZA,ZB,ZC,ZD,dl,db,dp,dc,hw,w3,refMarked]
     (repeat' first|apply And.intro|intro _)
     all_goals try first|contradiction|omega
     refine⟨(done++[((a:Int),(i:Int),((i+1:Nat):Int),())],i+1,i+1),⟨Nat.le_refl _,by dsimp only;omega,by simp;omega,hnil,f,by dsimp only;omega,by rw[hd];simp⟩,by dsimp only;omega,?_⟩
     simp(maxSteps:=4000000)only[go_sem,reduceIte,reduceCtorEq,Z0,Z1,Z2,Z3,Z4,Z5,Z6,Z7,Z8,Z9,ZA,ZB,ZC,ZD,refMarked]
     all_goals first|rfl|exact⟨rfl,rfl⟩|simp|fail
   ·have dp:decide ((a:Int)<(i:Int))=false:=decide_eq_false (by omega)
    have hcr:crN t a (i - a)=0:=if_neg fun h=>by omega
    rw[hcr]at hd
    refine go0 (cons_ok refMarked_ok nil_ok) 400 ?_
    simp(maxSteps:=4000000)only[go_sem,reduceIte,reduceCtorEq,Z0,Z1,Z2,Z3,Z4,Z5,Z6,Z7,Z8,Z9,ZA,ZB,ZC,ZD,dl,db,dp,hw,refMarked]
    (repeat' first|apply And.intro|intro _)
    all_goals try first|contradiction|omega
    refine⟨(done++[((a:Int),(i:Int),((i+1:Nat):Int),())],i+1,i+1),⟨Nat.le_refl _,by dsimp only;omega,by simp;omega,hnil,f,by dsimp only;omega,by rw[hd];simp⟩,by dsimp only;omega,?_⟩
    simp(maxSteps:=4000000)only[go_sem,reduceIte,reduceCtorEq,Z0,Z1,Z2,Z3,Z4,Z5,Z6,Z7,Z8,Z9,ZA,ZB,ZC,ZD,refMarked]
    all_goals first|rfl|exact⟨rfl,rfl⟩|simp|fail
  ·have db:decide (((t.getD i 0).toNat:Int)=10)=false:=decide_eq_false fun h=>hb (by rw[show(10:Int)=((10:UInt8).toNat:Int)from rfl,byteE]at h;exact h)
   have hnx:∀y∈(t.drop a).take (i+1 - a),y≠10:=by
    have hg:(t.drop a).getD (i - a) 0=t.getD i 0:=by simp[List.getD_eq_getElem?_getD,show a+(i - a)=i by omega]
    rw[show i+1 - a=(i - a)+1 by omega]
    exact take_in (by simp;omega) h0 (by rw[hg];exact hb)
   refine go0 (cons_ok refMarked_ok nil_ok) 400 ?_
   simp(maxSteps:=4000000)only[go_sem,reduceIte,reduceCtorEq,Z0,Z1,Z2,Z3,Z4,Z5,Z6,Z7,Z8,Z9,ZA,ZB,ZC,ZD,dl,db,hw,refMarked]
   (repeat' first|apply And.intro|intro _)
   all_goals try first|contradiction|omega
   refine⟨(done,a,i+1),⟨by dsimp only;omega,by dsimp only;omega,hdl,hnx,f+1,hf,hd⟩,by dsimp only;omega,?_⟩
   simp(maxSteps:=4000000)only[go_sem,reduceIte,reduceCtorEq,Z0,Z1,Z2,Z3,Z4,Z5,Z6,Z7,Z8,Z9,ZA,ZB,ZC,ZD,refMarked]
   all_goals first|rfl|exact⟨rfl,rfl⟩|simp|fail
 ·have e:i=t.length:=by omega
  subst e
  have dl:decide ((t.length:Int)<(t.length:Int))=false:=decide_eq_false (by omega)
  have h0':∀x∈t.drop a,x≠10:=by rwa [List.take_of_length_le (by simp)]at h0
  rw[pcs_end h0']at hd
  by_cases ha:a=t.length
  ·have da:decide ((a:Int)<(t.length:Int))=false:=decide_eq_false (by omega)
   rw[List.filter_cons,if_neg (by simp[hasB,ha]),List.filter_nil,List.append_nil]at hd
   refine go0 (cons_ok refMarked_ok nil_ok) 400 ?_
   simp(maxSteps:=4000000)only[go_sem,reduceIte,reduceCtorEq,Z0,Z1,Z2,Z3,Z4,Z5,Z6,Z7,Z8,Z9,ZA,ZB,ZC,ZD,dl,da,hd,refMarked]
   (repeat' first|apply And.intro|intro _)
   all_goals first|contradiction|omega|fail
  ·have da:decide ((a:Int)<(t.length:Int))=true:=decide_eq_true (by omega)
   rw[List.filter_cons,if_pos (by simp[hasB];omega),List.filter_nil]at hd
   refine go0 (cons_ok refMarked_ok nil_ok) 400 ?_
   simp(maxSteps:=4000000)only[go_sem,reduceIte,reduceCtorEq,Z0,Z1,Z2,Z3,Z4,Z5,Z6,Z7,Z8,Z9,ZA,ZB,ZC,ZD,dl,da,hd,refMarked]
   (repeat' first|apply And.intro|intro _)
   all_goals first|contradiction|omega|exact List.take_of_length_le (by simp)|fail
end Go.Proofs.YtcbmonndkjihkaaGreatDoor.Sx
namespace Go.Proofs.YtcbmonndkjihkaaGreatDoor.Sx
attribute [local irreducible] OkQ Ok
set_option linter.unusedSimpArgs false
set_option linter.unusedVariables false
open Nat renaming reduceEqDiff→Z0,reduceBEq→Z1,reduceAdd→Z2,reduceSub→Z3,reduceMul→Z4,reduceLeDiff→Z5
open Int renaming reduceEq→Z6,reduceLE→Z7,reduceLT→Z8,reduceNeg→Z9,reduceToNat→ZA,reduceAdd→ZB,reduceSub→ZC,reduceMul→ZD
set_option maxRecDepth 8000
theorem chars_len(s:List UInt8):(charsV s).length=cntV s:=by simp[charsV]
theorem chars_at{s:List UInt8}{k:Nat}(h:k<cntV s)(d:ChD):(charsV s).getD k d=chOf s k:=by
 simp[charsV,List.getD_eq_getElem?_getD,h]
theorem errAt_is(s:List UInt8)(k:Nat):errAt s k=if k=4096 then 32 else if isAt s k=false then 30 else if(chrAt s k<32∧chrAt s k≠9)∨chrAt s k=127 then 31 else 0:=by
 unfold errAt
 rw[wrong_is]
 simp
def refCheck03:Con:=⟨97,[(false,.str)],[(false,.int .i64),(false,.int .i64)],fun x=>(x.1:List UInt8).length≤1000000000000,fun x=>((chkL x.1).1,(chkL x.1).2,()),false⟩
set_option maxHeartbeats 4000000 in
theorem refCheck03_ok:refCheck03.Ok Tryz.prog:=by
 refine con_q Tryz.func97 rfl (by decide) (fun x hx hp=>go0 (cons_ok refChars_ok nil_ok) 400 ?_) (by decide)
 obtain⟨(s:List UInt8),⟨⟩⟩:=x
 have hz:s.length≤1000000000000:=hp
 clear hx hp
 have hcl:=cntV_le s
 have hcn:=chars_len s
 simp(maxSteps:=4000000)only[go_sem,reduceIte,reduceCtorEq,Z0,Z1,Z2,Z3,Z4,Z5,Z6,Z7,Z8,Z9,ZA,ZB,ZC,ZD,Tryz.f97,refCheck03,refChars]
 (repeat' first|apply And.intro|intro _)
 all_goals try omega
 refine OkQ.loop (α:=Nat) [0,1,2,3,5,6,7,8,9,10,11,12,13,14,15,16,17,18,19,20,21,22,23,24,25,26,27,28,29,30,31,32,33,34,35,36,37,38,39,40,41,42,43,44,45,46,47,48,49] (fun k=>[(5,.s (.int .i64 (k:Int)))]) (fun _=>[]) (fun k=>k≤cntV s∧chkL s=chkFrom s (s.length+1 - k) k) (fun k=>cntV s - k) 0 ⟨Nat.zero_le _,rfl⟩ ?_ fun k hk=>?_
 ·simp(maxSteps:=4000000)only[go_sem,reduceIte,reduceCtorEq,Z0,Z1,Z2,Z3,Z4,Z5,Z6,Z7,Z8,Z9,ZA,ZB,ZC,ZD,refChars]
  all_goals first|rfl|fail
 obtain⟨hk,hc⟩:=hk
 rcases Nat.lt_or_ge k (cntV s)with hlt|hge
 ·have dl:decide ((k:Int)<(cntV s:Int))=true:=decide_eq_true (by omega)
  have hg:(charsV s).getD k (0,0,0,false,())=chOf s k:=chars_at hlt _
  have hin:=cnt_in hlt
  have hea:=errAt_is s k
  have hw:wr .i64 ((k:Int)+1)=((k+1:Nat):Int):=wr_succ (by omega)
  obtain⟨r,hr⟩:∃r,r=chrAt s k:=⟨_,rfl⟩
  obtain⟨b,hb⟩:∃b,b=isAt s k:=⟨_,rfl⟩
  have hco:chOf s k=((walkP s k:Int),(widAt s k:Int),r,b,()):=by rw[hr,hb];rfl
  rw[←hr,←hb]at hea
  refine go0 (cons_ok refChars_ok nil_ok) 400 ?_
  simp(maxSteps:=4000000)only[go_sem,reduceIte,reduceCtorEq,Z0,Z1,Z2,Z3,Z4,Z5,Z6,Z7,Z8,Z9,ZA,ZB,ZC,ZD,hcn,dl,hg,hco,hw,refChars]
  (repeat' first|apply And.intro|intro _)
  all_goals try first|contradiction|omega
  all_goals first
   |(have e:errAt s k=32:=by rw[hea,if_pos (by omega)]
     rw[chk_err (by omega) hc hin e (by decide)];done)
   |(have e:errAt s k=30:=by rw[hea,if_neg (by omega),if_pos (by assumption)]
     rw[chk_err (by omega) hc hin e (by decide)];done)
   |(have e:errAt s k=31:=by rw[hea,if_neg (by omega),if_neg (by simp_all),if_pos (by omega)]
     rw[chk_err (by omega) hc hin e (by decide)];done)
   |(have e:errAt s k=0:=by rw[hea,if_neg (by omega),if_neg (by simp_all),if_neg (by omega)]
     exact⟨k+1,⟨by omega,chk_step (by omega) hc hin e⟩,by omega,rfl⟩)
   |fail
 ·have e:k=cntV s:=by omega
  subst e
  have dl:decide ((cntV s:Int)<(cntV s:Int))=false:=decide_eq_false (by omega)
  have he:=chk_end hcl hc (by rw[cnt_end'];omega)
  refine go0 (cons_ok refChars_ok nil_ok) 400 ?_
  simp(maxSteps:=4000000)only[go_sem,reduceIte,reduceCtorEq,Z0,Z1,Z2,Z3,Z4,Z5,Z6,Z7,Z8,Z9,ZA,ZB,ZC,ZD,hcn,dl,he,refChars]
  (repeat' first|apply And.intro|intro _)
  all_goals first|contradiction|omega|fail
theorem mis_iff(s:List UInt8):isMis s=true↔9≤(noteV s).length∧(noteV s).take 9=missV:=by
 unfold isMis Lib.hasPrefix
 rw[List.isPrefixOf_iff_prefix,List.prefix_iff_eq_take]
 constructor
 ·intro h
  have hl:=congrArg List.length h
  have:missV.length=9:=rfl
  rw[this,List.length_take]at hl
  exact⟨by omega,h.symm⟩
 ·exact fun h=>h.2.symm
theorem head_nil{s:List UInt8}(h:lhdV s=[]):fieldsV (cutA s 35)=[]:=by
 rw[←fields_head,h]
 rfl
def refScan:Con:=⟨68,[(false,.int .i64),(false,.str)],[(true,tLine),(false,.int .i64)],fun x=>(x.2.1:List UInt8).length≤1000000000000,fun x=>(scanV x.1 x.2.1,scanE x.2.1,()),false⟩
set_option maxHeartbeats 4000000 in
theorem refScan_ok:refScan.Ok Tryz.prog:=by
 refine con_q Tryz.func68 rfl (by decide) (fun x hx hp=>go0 (cons_ok refCheck03_ok (cons_ok refParts_ok (cons_ok refCut03_ok (cons_ok refUntil_ok (cons_ok refNamed_ok (cons_ok refFields_ok nil_ok)))))) 0 ?_) (by decide)
 obtain⟨(no:Int),(s:List UInt8),⟨⟩⟩:=x
 have hz:s.length≤1000000000000:=hp
 clear hx hp
 have a1:=head_len s
 have a2:=note_len s
 have a3:=cutA_len ((lhdV s).drop 1) 58
 have a4:=cutB1_len ((lhdV s).drop 1) 58
 have a5:((lhdV s).drop 1).length≤(lhdV s).length:=by simp
 have a6:((noteV s).drop 9).length≤(noteV s).length:=by simp
 have t1:List.take ((lhdV s).length - 1) (List.drop 1 (lhdV s))=List.drop 1 (lhdV s):=List.take_of_length_le (by simp)
 have t9:List.take ((noteV s).length - 9) (List.drop 9 (noteV s))=List.drop 9 (noteV s):=List.take_of_length_le (by simp)
 have e58:UInt8.ofNat 58=58:=rfl
 have hfh:=fields_head s
 by_cases hE:(chkL s).2=0
 ·have dE:decide ((chkL s).2=0)=true:=decide_eq_true hE
  have hs0:scanE s=if isOrd s=true∧ordOk s=false then 33 else 0:=by rw[scanE,if_neg (by simp[hE])]
  by_cases hh:lhdV s=[]
  ·have dh:=dT hh
   have hOrd:isOrd s=false:=by rw[isOrd,hh];rfl
   have e0:scanE s=0:=by rw[hs0,if_neg (by simp[hOrd])]
   have ev:scanV no s=partsV no s:=if_pos e0
   cases hMis:isMis s
   ·have ep:partsV no s=(no,0,[],[],noteV s,()):=by rw[partsV,if_neg (by simp[hOrd]),if_neg (by simp[hh]),if_neg (by simp[hMis]),head_nil hh]
    have hno:¬(9≤(noteV s).length∧(noteV s).take 9=[64,109,105,115,115,105,110,103,58]):=fun h=>by rw[(mis_iff s).2 h]at hMis;cases hMis
    refine go0 (cons_ok refCheck03_ok (cons_ok refParts_ok (cons_ok refCut03_ok (cons_ok refUntil_ok (cons_ok refNamed_ok (cons_ok refFields_ok nil_ok)))))) 400 ?_
    simp(maxSteps:=4000000)only[go_sem,reduceIte,reduceCtorEq,Z0,Z1,Z2,Z3,Z4,Z5,Z6,Z7,Z8,Z9,ZA,ZB,ZC,ZD,Tryz.f68,refScan,dE,dh,ev,e0,ep,t9,refCheck03,refParts,refCut03,refUntil,refNamed,refFields]
    (repeat' first|apply And.intro|intro _)
    all_goals first|contradiction|omega|(exfalso;exact hno ⟨by omega,by simp_all⟩)|fail
   ·obtain⟨m1,m2⟩:=(mis_iff s).1 hMis
    have ep:partsV no s=(no,3,[],fieldsV (cutA ((noteV s).drop 9) 35),noteV ((noteV s).drop 9),()):=by rw[partsV,if_neg (by simp[hOrd]),if_neg (by simp[hh]),if_pos hMis]
    have dm1:decide (9≤((noteV s).length:Int))=true:=decide_eq_true (by omega)
    have dm2:=dT (show(noteV s).take 9=[64,109,105,115,115,105,110,103,58]from m2)
    refine go0 (cons_ok refCheck03_ok (cons_ok refParts_ok (cons_ok refCut03_ok (cons_ok refUntil_ok (cons_ok refNamed_ok (cons_ok refFields_ok nil_ok)))))) 400 ?_
    simp(maxSteps:=4000000)only[go_sem,reduceIte,reduceCtorEq,Z0,Z1,Z2,Z3,Z4,Z5,Z6,Z7,Z8,Z9,ZA,ZB,ZC,ZD,Tryz.f68,refScan,dE,dh,dm1,dm2,ev,e0,ep,t9,refCheck03,refParts,refCut03,refUntil,refNamed,refFields]
    (repeat' first|apply And.intro|intro _)
    all_goals first|contradiction|omega|fail
  ·have dh:=dF hh
   obtain⟨c,rest,hcr⟩:∃c rest,lhdV s=c::rest:=by
    cases h:lhdV s with
    |nil=>exact absurd h hh
    |cons c r=>exact⟨c,r,rfl⟩
   have hhl:1≤(lhdV s).length:=by rw[hcr];simp
   have hg:(lhdV s).getD 0 0=c:=by rw[hcr];rfl
   have hO:isOrd s=decide (c=64):=by
    rw[isOrd,hcr]
    show((64:UInt8)==c&&true)=decide (c=64)
    rw[Bool.and_true,Bool.eq_iff_iff,beq_iff_eq,decide_eq_true_eq]
    exact eq_comm
   by_cases hc:c=64
   ·have hOrd:isOrd s=true:=by rw[hO];exact decide_eq_true hc
    have dc:decide ((c.toNat:Int)=64)=true:=decide_eq_true (by rw[hc];rfl)
    have ep:partsV no s=(no,2,cutA ((lhdV s).drop 1) 58,fieldsV (cutB1 ((lhdV s).drop 1) 58),noteV s,()):=by rw[partsV,if_pos hOrd]
    cases hC:cutIs ((lhdV s).drop 1) 58
    ·have e0:scanE s=33:=by rw[hs0,if_pos ⟨hOrd,by rw[ordOk,hC];rfl⟩]
     have ev:scanV no s=lnZ:=if_neg (by rw[e0];decide)
     refine go0 (cons_ok refCheck03_ok (cons_ok refParts_ok (cons_ok refCut03_ok (cons_ok refUntil_ok (cons_ok refNamed_ok (cons_ok refFields_ok nil_ok)))))) 400 ?_
     simp(maxSteps:=4000000)only[go_sem,reduceIte,reduceCtorEq,Z0,Z1,Z2,Z3,Z4,Z5,Z6,Z7,Z8,Z9,ZA,ZB,ZC,ZD,Tryz.f68,refScan,dE,dh,hg,dc,t1,e58,hC,ev,e0,ep,lnZ,refCheck03,refParts,refCut03,refUntil,refNamed,refFields]
     (repeat' first|apply And.intro|intro _)
     all_goals first|contradiction|omega|fail
    ·cases hNm:namedV (cutA ((lhdV s).drop 1) 58)
     ·have e0:scanE s=33:=by rw[hs0,if_pos ⟨hOrd,by rw[ordOk,hC,hNm];rfl⟩]
      have ev:scanV no s=lnZ:=if_neg (by rw[e0];decide)
      refine go0 (cons_ok refCheck03_ok (cons_ok refParts_ok (cons_ok refCut03_ok (cons_ok refUntil_ok (cons_ok refNamed_ok (cons_ok refFields_ok nil_ok)))))) 400 ?_
      simp(maxSteps:=4000000)only[go_sem,reduceIte,reduceCtorEq,Z0,Z1,Z2,Z3,Z4,Z5,Z6,Z7,Z8,Z9,ZA,ZB,ZC,ZD,Tryz.f68,refScan,dE,dh,hg,dc,t1,e58,hC,hNm,ev,e0,ep,lnZ,refCheck03,refParts,refCut03,refUntil,refNamed,refFields]
      (repeat' first|apply And.intro|intro _)
      all_goals first|contradiction|omega|fail
     ·have e0:scanE s=0:=by rw[hs0,if_neg fun h=>by rw[ordOk,hC,hNm]at h;exact absurd h.2 (by decide)]
      have ev:scanV no s=partsV no s:=if_pos e0
      refine go0 (cons_ok refCheck03_ok (cons_ok refParts_ok (cons_ok refCut03_ok (cons_ok refUntil_ok (cons_ok refNamed_ok (cons_ok refFields_ok nil_ok)))))) 400 ?_
      simp(maxSteps:=4000000)only[go_sem,reduceIte,reduceCtorEq,Z0,Z1,Z2,Z3,Z4,Z5,Z6,Z7,Z8,Z9,ZA,ZB,ZC,ZD,Tryz.f68,refScan,dE,dh,hg,dc,t1,e58,hC,hNm,ev,e0,ep,refCheck03,refParts,refCut03,refUntil,refNamed,refFields]
      (repeat' first|apply And.intro|intro _)
      all_goals first|contradiction|omega|fail
   ·have hOrd:isOrd s=false:=by rw[hO];exact decide_eq_false hc
    have dc:decide ((c.toNat:Int)=64)=false:=decide_eq_false fun h=>hc (UInt8.toNat_inj.1 (by have:(64:UInt8).toNat=64:=rfl;omega))
    have e0:scanE s=0:=by rw[hs0,if_neg (by simp[hOrd])]
    have ev:scanV no s=partsV no s:=if_pos e0
    have ep:partsV no s=(no,1,[],fieldsV (cutA s 35),noteV s,()):=by rw[partsV,if_neg (by simp[hOrd]),if_pos hh]
    refine go0 (cons_ok refCheck03_ok (cons_ok refParts_ok (cons_ok refCut03_ok (cons_ok refUntil_ok (cons_ok refNamed_ok (cons_ok refFields_ok nil_ok)))))) 400 ?_
    simp(maxSteps:=4000000)only[go_sem,reduceIte,reduceCtorEq,Z0,Z1,Z2,Z3,Z4,Z5,Z6,Z7,Z8,Z9,ZA,ZB,ZC,ZD,Tryz.f68,refScan,dE,dh,hg,dc,hfh,ev,e0,ep,refCheck03,refParts,refCut03,refUntil,refNamed,refFields]
    (repeat' first|apply And.intro|intro _)
    all_goals first|contradiction|omega|fail
 ·have dE:decide ((chkL s).2=0)=false:=decide_eq_false hE
  have e0:scanE s=(chkL s).2:=by rw[scanE,if_pos hE]
  have ev:scanV no s=lnZ:=if_neg (by rw[e0];exact hE)
  refine go0 (cons_ok refCheck03_ok (cons_ok refParts_ok (cons_ok refCut03_ok (cons_ok refUntil_ok (cons_ok refNamed_ok (cons_ok refFields_ok nil_ok)))))) 400 ?_
  simp(maxSteps:=4000000)only[go_sem,reduceIte,reduceCtorEq,Z0,Z1,Z2,Z3,Z4,Z5,Z6,Z7,Z8,Z9,ZA,ZB,ZC,ZD,Tryz.f68,refScan,dE,ev,e0,lnZ,refCheck03,refParts,refCut03,refUntil,refNamed,refFields]
  (repeat' first|apply And.intro|intro _)
  all_goals first|contradiction|omega|fail
end Go.Proofs.YtcbmonndkjihkaaGreatDoor.Sx
namespace Go.Proofs.YtcbmonndkjihkaaGreatDoor.Sx
attribute [local irreducible] OkQ Ok
set_option linter.unusedSimpArgs false
set_option linter.unusedVariables false
theorem kPg0:∀c∈[refHex,refChars,refNum,refClass,refShort,refMade],c.Ok Tryz.prog:=(cons_ok refHex_ok (cons_ok refChars_ok (cons_ok refNum_ok (cons_ok refClass_ok (cons_ok refShort_ok (cons_ok refMade_ok nil_ok))))))
open Nat renaming reduceEqDiff→Z0,reduceBEq→Z1,reduceAdd→Z2,reduceSub→Z3,reduceMul→Z4,reduceLeDiff→Z5
open Int renaming reduceEq→Z6,reduceLE→Z7,reduceLT→Z8,reduceNeg→Z9,reduceToNat→ZA,reduceAdd→ZB,reduceSub→ZC,reduceMul→ZD
set_option maxRecDepth 8000
def refScan6:Con:=⟨12,[(true,tLine)],[(true,tRow),(false,.int .i64)],fun x=>∀k,(fld x.1 k).length≤1000000000,fun x=>(rowV x.1,rowE x.1,()),false⟩
set_option maxHeartbeats 40000000 in
theorem refScan6_ok:refScan6.Ok Tryz.prog:=by
 refine con_q Tryz.func12 rfl (by decide) (fun x hx hp=>go0 kPg0 0 ?_) (by decide)
 obtain⟨l,⟨⟩⟩:=x
 have hf:∀k,(fld l k).length≤1000000000:=hp
 clear hx hp
 have f0:(List.getD l.2.2.2.1 0 []).length≤1000000000:=hf 0
 have f1:(List.getD l.2.2.2.1 1 []).length≤1000000000:=hf 1
 have f2:(List.getD l.2.2.2.1 2 []).length≤1000000000:=hf 2
 have f3:(List.getD l.2.2.2.1 3 []).length≤1000000000:=hf 3
 have f4:(List.getD l.2.2.2.1 4 []).length≤1000000000:=hf 4
 have f5:(List.getD l.2.2.2.1 5 []).length≤1000000000:=hf 5
 by_cases h2:l.2.1=2
 ·have d2:decide (l.2.1=2)=true:=decide_eq_true h2
  have e:rowE l=33:=by rw[rowE,if_pos h2]
  have v:rowV l=rowZ:=by rw[rowV,e];rfl
  refine go0 kPg0 300 ?_
  simp(maxSteps:=4000000)only[go_sem,reduceIte,reduceCtorEq,Z0,Z1,Z2,Z3,Z4,Z5,Z6,Z7,Z8,Z9,ZA,ZB,ZC,ZD,Tryz.f12,refScan6,d2,e,v,rowZ,refHex,refChars,refNum,refClass,refShort,refMade]
  (repeat' first|apply And.intro|intro _|(show staB _ _=true;kernel_rfl)|(show dynB _ _=true;kernel_rfl)|(show dynP _ _ _=true;kernel_rfl))
  all_goals first|contradiction|omega|rfl|exact hf|fail
 have d2:decide (l.2.1=2)=false:=decide_eq_false h2
 by_cases h1:l.2.1=1
 case neg=>
  have d1:decide (l.2.1=1)=false:=decide_eq_false h1
  have e:rowE l=60:=by rw[rowE,if_neg h2,if_pos (.inl h1)]
  have v:rowV l=rowZ:=by rw[rowV,e];rfl
  refine go0 kPg0 300 ?_
  simp(maxSteps:=4000000)only[go_sem,reduceIte,reduceCtorEq,Z0,Z1,Z2,Z3,Z4,Z5,Z6,Z7,Z8,Z9,ZA,ZB,ZC,ZD,Tryz.f12,refScan6,d2,d1,e,v,rowZ,refHex,refChars,refNum,refClass,refShort,refMade]
  (repeat' first|apply And.intro|intro _|(show staB _ _=true;kernel_rfl)|(show dynB _ _=true;kernel_rfl)|(show dynP _ _ _=true;kernel_rfl))
  all_goals first|contradiction|omega|rfl|exact hf|fail
 have d1:decide (l.2.1=1)=true:=decide_eq_true h1
 by_cases h0:l.2.2.2.1.length=15
 case neg=>
  have d0:decide ((l.2.2.2.1.length:Int)=15)=false:=decide_eq_false (by omega)
  have e:rowE l=60:=by rw[rowE,if_neg h2,if_pos (.inr h0)]
  have v:rowV l=rowZ:=by rw[rowV,e];rfl
  refine go0 kPg0 300 ?_
  simp(maxSteps:=4000000)only[go_sem,reduceIte,reduceCtorEq,Z0,Z1,Z2,Z3,Z4,Z5,Z6,Z7,Z8,Z9,ZA,ZB,ZC,ZD,Tryz.f12,refScan6,d2,d1,d0,e,v,rowZ,refHex,refChars,refNum,refClass,refShort,refMade]
  (repeat' first|apply And.intro|intro _|(show staB _ _=true;kernel_rfl)|(show dynB _ _=true;kernel_rfl)|(show dynP _ _ _=true;kernel_rfl))
  all_goals first|contradiction|omega|rfl|exact hf|fail
 have d0:decide ((l.2.2.2.1.length:Int)=15)=true:=decide_eq_true (by omega)
 have hB:¬(l.2.1≠1∨l.2.2.2.1.length≠15):=fun h=>h.elim (fun h=>h h1) (fun h=>h h0)
 by_cases c0:hexE (fld l 0)=0
 case neg=>
  have d3:decide (hexE (List.getD l.2.2.2.1 0 [])=0)=false:=decide_eq_false c0
  have e:rowE l=40:=by rw[rowE,if_neg h2,if_neg hB,if_pos c0]
  have v:rowV l=rowZ:=by rw[rowV,if_neg (by rw[e];decide)]
  refine go0 kPg0 300 ?_
  simp(maxSteps:=4000000)only[go_sem,reduceIte,reduceCtorEq,Z0,Z1,Z2,Z3,Z4,Z5,Z6,Z7,Z8,Z9,ZA,ZB,ZC,ZD,Tryz.f12,refScan6,d2,d1,d0,d3,e,v,rowZ,refHex,refChars,refNum,refClass,refShort,refMade]
  (repeat' first|apply And.intro|intro _|(show staB _ _=true;kernel_rfl)|(show dynB _ _=true;kernel_rfl)|(show dynP _ _ _=true;kernel_rfl))
  all_goals first|contradiction|omega|rfl|exact hf|fail
 have d3:decide (hexE (List.getD l.2.2.2.1 0 [])=0)=true:=decide_eq_true c0
 by_cases c1:cntV (fld l 1)<1∨256<cntV (fld l 1)
 case pos=>
  have e:rowE l=61:=by rw[rowE,if_neg h2,if_neg hB,if_neg (by rw[c0];simp),if_pos c1]
  have v:rowV l=rowZ:=by rw[rowV,if_neg (by rw[e];decide)]
  by_cases c1a:cntV (fld l 1)<1
  ·have d4:decide ((cntV (List.getD l.2.2.2.1 1 []):Int)<1)=true:=decide_eq_true (by have:cntV (List.getD l.2.2.2.1 1 [])<1:=c1a;omega)
   refine go0 kPg0 300 ?_
   simp(maxSteps:=4000000)only[go_sem,reduceIte,reduceCtorEq,Z0,Z1,Z2,Z3,Z4,Z5,Z6,Z7,Z8,Z9,ZA,ZB,ZC,ZD,Tryz.f12,refScan6,d2,d1,d0,d3,chars_len,d4,e,v,rowZ,refHex,refChars,refNum,refClass,refShort,refMade]
   (repeat' first|apply And.intro|intro _|(show staB _ _=true;kernel_rfl)|(show dynB _ _=true;kernel_rfl)|(show dynP _ _ _=true;kernel_rfl))
   all_goals first|contradiction|omega|rfl|exact hf|fail
  ·have d4:decide ((cntV (List.getD l.2.2.2.1 1 []):Int)<1)=false:=decide_eq_false (by have:¬cntV (List.getD l.2.2.2.1 1 [])<1:=c1a;omega)
   have d5:decide (256<(cntV (List.getD l.2.2.2.1 1 []):Int))=true:=decide_eq_true (by have:256<cntV (List.getD l.2.2.2.1 1 []):=c1.resolve_left c1a;omega)
   refine go0 kPg0 300 ?_
   simp(maxSteps:=4000000)only[go_sem,reduceIte,reduceCtorEq,Z0,Z1,Z2,Z3,Z4,Z5,Z6,Z7,Z8,Z9,ZA,ZB,ZC,ZD,Tryz.f12,refScan6,d2,d1,d0,d3,chars_len,d4,d5,e,v,rowZ,refHex,refChars,refNum,refClass,refShort,refMade]
   (repeat' first|apply And.intro|intro _|(show staB _ _=true;kernel_rfl)|(show dynB _ _=true;kernel_rfl)|(show dynP _ _ _=true;kernel_rfl))
   all_goals first|contradiction|omega|rfl|exact hf|fail
 have d4:decide ((cntV (List.getD l.2.2.2.1 1 []):Int)<1)=false:=decide_eq_false (by have:¬cntV (List.getD l.2.2.2.1 1 [])<1:=fun h=>c1 (.inl h);omega)
 have d5:decide (256<(cntV (List.getD l.2.2.2.1 1 []):Int))=false:=decide_eq_false (by have:¬256<cntV (List.getD l.2.2.2.1 1 []):=fun h=>c1 (.inr h);omega)
 refine run_ok (Cs:=[refHex,refChars,refNum,refClass,refShort,refMade]) (stp:=[12]) (inl:=[]) (unr:=false) (cons_ok refHex_ok (cons_ok refChars_ok (cons_ok refNum_ok (cons_ok refClass_ok (cons_ok refShort_ok (cons_ok refMade_ok nil_ok)))))) 400 _ _ _ _ ?_
 simp(maxSteps:=4000000)only[go_sem,reduceIte,reduceCtorEq,Z0,Z1,Z2,Z3,Z4,Z5,Z6,Z7,Z8,Z9,ZA,ZB,ZC,ZD,Tryz.f12,refScan6,d2,d1,d0,d3,chars_len,d4,d5,refHex,refChars,refNum,refClass,refShort,refMade]
 (repeat' first|apply And.intro|intro _|(show staB _ _=true;kernel_rfl)|(show dynB _ _=true;kernel_rfl)|(show dynP _ _ _=true;kernel_rfl))
 all_goals try first|contradiction|omega|exact hf
 by_cases c2:catOk (fld l 2)=true
 case neg=>
  have c2b:catOk (fld l 2)=false:=by simpa using c2
  have e:rowE l=63:=by rw[rowE,if_neg h2,if_neg hB,if_neg (by rw[c0];simp),if_neg c1,if_pos c2b]
  have v:rowV l=rowZ:=by rw[rowV,if_neg (by rw[e];decide)]
  have c2':¬((List.getD l.2.2.2.1 2 []).length=2∧65≤((List.getD l.2.2.2.1 2 []).getD 0 0).toNat∧((List.getD l.2.2.2.1 2 []).getD 0 0).toNat≤90∧97≤((List.getD l.2.2.2.1 2 []).getD 1 0).toNat∧((List.getD l.2.2.2.1 2 []).getD 1 0).toNat≤122):=fun h=>c2 ((cat_iff _).2 h)
  have n2:(List.getD l.2.2.2.1 2 []).length=2→1<(List.getD l.2.2.2.1 2 []).length:=fun h=>by omega
  refine run_ok (Cs:=[refHex,refChars,refNum,refClass,refShort,refMade]) (stp:=[14]) (inl:=[]) (unr:=false) (cons_ok refHex_ok (cons_ok refChars_ok (cons_ok refNum_ok (cons_ok refClass_ok (cons_ok refShort_ok (cons_ok refMade_ok nil_ok)))))) 60 _ _ _ _ ?_
  simp(maxSteps:=4000000)only[go_sem,reduceIte,reduceCtorEq,Z0,Z1,Z2,Z3,Z4,Z5,Z6,Z7,Z8,Z9,ZA,ZB,ZC,ZD,refScan6,e,v,rowZ,refHex,refChars,refNum,refClass,refShort,refMade]
  (repeat' first|apply And.intro|intro _|(show staB _ _=true;kernel_rfl)|(show dynB _ _=true;kernel_rfl)|(show dynP _ _ _=true;kernel_rfl))
  all_goals first|contradiction|omega|rfl|exact hf|fail
 obtain⟨k0,k1,k2,k3,k4⟩:((List.getD l.2.2.2.1 2 []).length=2∧65≤((List.getD l.2.2.2.1 2 []).getD 0 0).toNat∧((List.getD l.2.2.2.1 2 []).getD 0 0).toNat≤90∧97≤((List.getD l.2.2.2.1 2 []).getD 1 0).toNat∧((List.getD l.2.2.2.1 2 []).getD 1 0).toNat≤122):=(cat_iff _).1 c2
 have c2n:¬catOk (fld l 2)=false:=by rw[c2];simp
 have e0:decide (((List.getD l.2.2.2.1 2 []).length:Int)=2)=true:=decide_eq_true (by omega)
 have e1:decide ((((List.getD l.2.2.2.1 2 []).getD 0 0).toNat:Int)<65)=false:=decide_eq_false (by omega)
 have e2:decide ((90:Int)<(((List.getD l.2.2.2.1 2 []).getD 0 0).toNat:Int))=false:=decide_eq_false (by omega)
 have e3:decide ((((List.getD l.2.2.2.1 2 []).getD 1 0).toNat:Int)<97)=false:=decide_eq_false (by omega)
 have e4:decide ((122:Int)<(((List.getD l.2.2.2.1 2 []).getD 1 0).toNat:Int))=false:=decide_eq_false (by omega)
 by_cases c3:combV (fld l 3)<0
 case pos=>
  have d6:decide (combV (List.getD l.2.2.2.1 3 [])<0)=true:=decide_eq_true c3
  have e:rowE l=64:=by rw[rowE,if_neg h2,if_neg hB,if_neg (by rw[c0];simp),if_neg c1,if_neg c2n,if_pos c3]
  have v:rowV l=rowZ:=by rw[rowV,if_neg (by rw[e];decide)]
  refine go0 kPg0 150 ?_
  simp(maxSteps:=4000000)only[go_sem,reduceIte,reduceCtorEq,Z0,Z1,Z2,Z3,Z4,Z5,Z6,Z7,Z8,Z9,ZA,ZB,ZC,ZD,refScan6,e0,e1,e2,e3,e4,d6,e,v,rowZ,refHex,refChars,refNum,refClass,refShort,refMade]
  (repeat' first|apply And.intro|intro _|(show staB _ _=true;kernel_rfl)|(show dynB _ _=true;kernel_rfl)|(show dynP _ _ _=true;kernel_rfl))
  all_goals first|contradiction|omega|rfl|exact hf|fail
 have d6:decide (combV (List.getD l.2.2.2.1 3 [])<0)=false:=decide_eq_false c3
 refine run_ok (Cs:=[refHex,refChars,refNum,refClass,refShort,refMade]) (stp:=[18]) (inl:=[]) (unr:=false) (cons_ok refHex_ok (cons_ok refChars_ok (cons_ok refNum_ok (cons_ok refClass_ok (cons_ok refShort_ok (cons_ok refMade_ok nil_ok)))))) 400 _ _ _ _ ?_
 simp(maxSteps:=4000000)only[go_sem,reduceIte,reduceCtorEq,Z0,Z1,Z2,Z3,Z4,Z5,Z6,Z7,Z8,Z9,ZA,ZB,ZC,ZD,e0,e1,e2,e3,e4,d6,refHex,refChars,refNum,refClass,refShort,refMade]
 (repeat' first|apply And.intro|intro _|(show staB _ _=true;kernel_rfl)|(show dynB _ _=true;kernel_rfl)|(show dynP _ _ _=true;kernel_rfl))
 all_goals try first|contradiction|omega
 have c3':0≤combV (List.getD l.2.2.2.1 3 []):=by have h:¬combV (List.getD l.2.2.2.1 3 [])<0:=c3;omega
 have c3'':=(comb_back c3').1
 have w8:wr .u8 (combV (List.getD l.2.2.2.1 3 []))=combV (List.getD l.2.2.2.1 3 []):=wr_u8 (by omega) (by omega)
 have hin:=dcls_in (List.getD l.2.2.2.1 4 [])
 have d8:decide (23<dclsV (List.getD l.2.2.2.1 4 []))=false:=decide_eq_false (by omega)
 by_cases c4:clsOf (fld l 4)=0
 case pos=>
  have e:rowE l=50:=by rw[rowE,if_neg h2,if_neg hB,if_neg (by rw[c0];simp),if_neg c1,if_neg c2n,if_neg c3,if_pos c4]
  have v:rowV l=rowZ:=by rw[rowV,if_neg (by rw[e];decide)]
  have hno:=dcls_no (s:=List.getD l.2.2.2.1 4 []) c4
  by_cases c4a:dclsV (List.getD l.2.2.2.1 4 [])<1
  ·have d7:decide (dclsV (List.getD l.2.2.2.1 4 [])<1)=true:=decide_eq_true c4a
   refine go0 kPg0 150 ?_
   simp(maxSteps:=4000000)only[go_sem,reduceIte,reduceCtorEq,Z0,Z1,Z2,Z3,Z4,Z5,Z6,Z7,Z8,Z9,ZA,ZB,ZC,ZD,refScan6,d7,e,v,rowZ,refHex,refChars,refNum,refClass,refShort,refMade]
   (repeat' first|apply And.intro|intro _|(show staB _ _=true;kernel_rfl)|(show dynB _ _=true;kernel_rfl)|(show dynP _ _ _=true;kernel_rfl))
   all_goals first|contradiction|omega|rfl|exact hf|fail
  ·have d7:decide (dclsV (List.getD l.2.2.2.1 4 [])<1)=false:=decide_eq_false c4a
   have d9:decide (dShort (dclsV (List.getD l.2.2.2.1 4 []))=List.getD l.2.2.2.1 4 [])=false:=decide_eq_false fun h=>hno ⟨by omega,h⟩
   refine go0 kPg0 150 ?_
   simp(maxSteps:=4000000)only[go_sem,reduceIte,reduceCtorEq,Z0,Z1,Z2,Z3,Z4,Z5,Z6,Z7,Z8,Z9,ZA,ZB,ZC,ZD,refScan6,d7,d8,d9,e,v,rowZ,refHex,refChars,refNum,refClass,refShort,refMade]
   (repeat' first|apply And.intro|intro _|(show staB _ _=true;kernel_rfl)|(show dynB _ _=true;kernel_rfl)|(show dynP _ _ _=true;kernel_rfl))
   all_goals first|contradiction|omega|rfl|exact hf|fail
 obtain⟨y1,y2,y3,y4⟩:=dcls_yes (s:=List.getD l.2.2.2.1 4 []) c4
 rw[←y1]at y2 y3 y4
 have d7:decide (dclsV (List.getD l.2.2.2.1 4 [])<1)=false:=decide_eq_false (by omega)
 have d9:decide (dShort (dclsV (List.getD l.2.2.2.1 4 []))=List.getD l.2.2.2.1 4 [])=true:=decide_eq_true y4
 refine run_ok (Cs:=[refHex,refChars,refNum,refClass,refShort,refMade]) (stp:=[20]) (inl:=[]) (unr:=false) (cons_ok refHex_ok (cons_ok refChars_ok (cons_ok refNum_ok (cons_ok refClass_ok (cons_ok refShort_ok (cons_ok refMade_ok nil_ok)))))) 400 _ _ _ _ ?_
 simp(maxSteps:=4000000)only[go_sem,reduceIte,reduceCtorEq,Z0,Z1,Z2,Z3,Z4,Z5,Z6,Z7,Z8,Z9,ZA,ZB,ZC,ZD,d7,d8,d9,refHex,refChars,refNum,refClass,refShort,refMade]
 (repeat' first|apply And.intro|intro _|(show staB _ _=true;kernel_rfl)|(show dynB _ _=true;kernel_rfl)|(show dynP _ _ _=true;kernel_rfl))
 all_goals try first|contradiction|omega
 cases c5:madeOk (List.getD l.2.2.2.1 5 [])
 case false=>
  have c5f:madeOk (fld l 5)=false:=c5
  have e:rowE l=65:=by rw[rowE,if_neg h2,if_neg hB,if_neg (by rw[c0];simp),if_neg c1,if_neg c2n,if_neg c3,if_neg c4,if_pos c5f]
  have v:rowV l=rowZ:=by rw[rowV,if_neg (by rw[e];decide)]
  refine go0 kPg0 150 ?_
  simp(maxSteps:=4000000)only[go_sem,reduceIte,reduceCtorEq,Z0,Z1,Z2,Z3,Z4,Z5,Z6,Z7,Z8,Z9,ZA,ZB,ZC,ZD,refScan6,c5,e,v,rowZ,refHex,refChars,refNum,refClass,refShort,refMade]
  (repeat' first|apply And.intro|intro _|(show staB _ _=true;kernel_rfl)|(show dynB _ _=true;kernel_rfl)|(show dynP _ _ _=true;kernel_rfl))
  all_goals first|contradiction|omega|rfl|exact hf|fail
 have c5n:¬madeOk (fld l 5)=false:=by rw[show madeOk (fld l 5)=true from c5];simp
 refine run_ok (Cs:=[refHex,refChars,refNum,refClass,refShort,refMade]) (stp:=[23]) (inl:=[]) (unr:=false) (cons_ok refHex_ok (cons_ok refChars_ok (cons_ok refNum_ok (cons_ok refClass_ok (cons_ok refShort_ok (cons_ok refMade_ok nil_ok)))))) 400 _ _ _ _ ?_
 simp(maxSteps:=4000000)only[go_sem,reduceIte,reduceCtorEq,Z0,Z1,Z2,Z3,Z4,Z5,Z6,Z7,Z8,Z9,ZA,ZB,ZC,ZD,c5,if_true,refHex,refChars,refNum,refClass,refShort,refMade]
 (repeat' first|apply And.intro|intro _|(show staB _ _=true;kernel_rfl)|(show dynB _ _=true;kernel_rfl)|(show dynP _ _ _=true;kernel_rfl))
 all_goals try first|contradiction|omega
 by_cases c6:List.getD l.2.2.2.1 9 []=[89]
 ·have d10:decide (List.getD l.2.2.2.1 9 []=[89])=true:=decide_eq_true c6
  have e:rowE l=0:=by rw[rowE,if_neg h2,if_neg hB,if_neg (by rw[c0];simp),if_neg c1,if_neg c2n,if_neg c3,if_neg c4,if_neg c5n,if_neg (fun h=>h.1 c6)]
  have v:rowV l=(l.1,hexV (List.getD l.2.2.2.1 0 []),hexV (List.getD l.2.2.2.1 0 []),List.getD l.2.2.2.1 1 [],List.getD l.2.2.2.1 2 [],combV (List.getD l.2.2.2.1 3 []),dclsV (List.getD l.2.2.2.1 4 []),madeV (List.getD l.2.2.2.1 5 []),decide (List.getD l.2.2.2.1 9 []=[89]),()):=by
   rw[rowV,if_pos e]
   unfold rowR
   rw[y1]
   rfl
  refine go0 kPg0 150 ?_
  simp(maxSteps:=4000000)only[go_sem,reduceIte,reduceCtorEq,Z0,Z1,Z2,Z3,Z4,Z5,Z6,Z7,Z8,Z9,ZA,ZB,ZC,ZD,refScan6,w8,d10,e,v,if_true,refHex,refChars,refNum,refClass,refShort,refMade]
  (repeat' first|apply And.intro|intro _|(show staB _ _=true;kernel_rfl)|(show dynB _ _=true;kernel_rfl)|(show dynP _ _ _=true;kernel_rfl))
  all_goals first|contradiction|omega|rfl|exact hf|exact d10.symm|fail
 have d10:decide (List.getD l.2.2.2.1 9 []=[89])=false:=decide_eq_false c6
 by_cases c7:List.getD l.2.2.2.1 9 []=[78]
 ·have d11:decide (List.getD l.2.2.2.1 9 []=[78])=true:=decide_eq_true c7
  have e:rowE l=0:=by rw[rowE,if_neg h2,if_neg hB,if_neg (by rw[c0];simp),if_neg c1,if_neg c2n,if_neg c3,if_neg c4,if_neg c5n,if_neg (fun h=>h.2 c7)]
  have v:rowV l=(l.1,hexV (List.getD l.2.2.2.1 0 []),hexV (List.getD l.2.2.2.1 0 []),List.getD l.2.2.2.1 1 [],List.getD l.2.2.2.1 2 [],combV (List.getD l.2.2.2.1 3 []),dclsV (List.getD l.2.2.2.1 4 []),madeV (List.getD l.2.2.2.1 5 []),decide (List.getD l.2.2.2.1 9 []=[89]),()):=by
   rw[rowV,if_pos e]
   unfold rowR
   rw[y1]
   rfl
  refine go0 kPg0 150 ?_
  simp(maxSteps:=4000000)only[go_sem,reduceIte,reduceCtorEq,Z0,Z1,Z2,Z3,Z4,Z5,Z6,Z7,Z8,Z9,ZA,ZB,ZC,ZD,refScan6,w8,d10,d11,e,v,if_true,refHex,refChars,refNum,refClass,refShort,refMade]
  (repeat' first|apply And.intro|intro _|(show staB _ _=true;kernel_rfl)|(show dynB _ _=true;kernel_rfl)|(show dynP _ _ _=true;kernel_rfl))
  all_goals first|contradiction|omega|rfl|exact hf|exact d10.symm|fail
 have d11:decide (List.getD l.2.2.2.1 9 []=[78])=false:=decide_eq_false c7
 have e:rowE l=66:=by rw[rowE,if_neg h2,if_neg hB,if_neg (by rw[c0];simp),if_neg c1,if_neg c2n,if_neg c3,if_neg c4,if_neg c5n,if_pos ⟨c6,c7⟩]
 have v:rowV l=rowZ:=by rw[rowV,if_neg (by rw[e];decide)]
 refine go0 kPg0 150 ?_
 simp(maxSteps:=4000000)only[go_sem,reduceIte,reduceCtorEq,Z0,Z1,Z2,Z3,Z4,Z5,Z6,Z7,Z8,Z9,ZA,ZB,ZC,ZD,refScan6,w8,d10,d11,e,v,rowZ,refHex,refChars,refNum,refClass,refShort,refMade]
 (repeat' first|apply And.intro|intro _|(show staB _ _=true;kernel_rfl)|(show dynB _ _=true;kernel_rfl)|(show dynP _ _ _=true;kernel_rfl))
 all_goals first|contradiction|omega|rfl|exact hf|fail
end Go.Proofs.YtcbmonndkjihkaaGreatDoor.Sx
namespace Go.Proofs.YtcbmonndkjihkaaGreatDoor.Sx
attribute [local irreducible] OkQ Ok
set_option linter.unusedSimpArgs false
set_option linter.unusedVariables false
open Nat renaming reduceEqDiff→Z0,reduceBEq→Z1,reduceAdd→Z2,reduceSub→Z3,reduceMul→Z4,reduceLeDiff→Z5
open Int renaming reduceEq→Z6,reduceLE→Z7,reduceLT→Z8,reduceNeg→Z9,reduceToNat→ZA,reduceAdd→ZB,reduceSub→ZC,reduceMul→ZD
set_option maxRecDepth 8000
theorem rpc_at{t:List UInt8}{i:Nat}(h:i<(refPcs t).length):(refPcs t).drop i=(refPcs t).getD i pcZ::(refPcs t).drop (i+1)∧0≤((refPcs t).getD i pcZ).1∧((refPcs t).getD i pcZ).1≤((refPcs t).getD i pcZ).2.1∧((refPcs t).getD i pcZ).2.1≤(t.length:Int)∧¬((refPcs t).getD i pcZ).1=((refPcs t).getD i pcZ).2.2.1:=by
 have e:(refPcs t).getD i pcZ=(refPcs t)[i]:=by simp[List.getD_eq_getElem?_getD,h]
 have hm:(refPcs t)[i]∈refPcs t:=List.getElem_mem h
 have hm2:=List.mem_filter.1 hm
 obtain⟨a,b,c,_⟩:=pcs_in t _ _ (bom_len t) _ hm2.1
 rw[e]
 refine⟨List.drop_eq_getElem_cons h,a,b,c,?_⟩
 have:=hm2.2
 simpa[hasB]using this
theorem rpc_len(t:List UInt8):(refPcs t).length≤t.length+1:=by
 have h1:(refPcs t).length≤(pcsV t).length:=List.length_filter_le _ _
 have h2:=pcs_len t (t.length+1) (bomN t) (bom_len t)
 unfold pcsV at h1
 omega
def refRead03:Con:=⟨39,[(false,.str)],[(false,tLines),(false,.int .i64),(false,.int .i64)],fun x=>(x.1:List UInt8).length≤100000000000,fun x=>((linesV x.1).2.2,(linesV x.1).2.1,(linesV x.1).1,()),false⟩
set_option maxHeartbeats 4000000 in
theorem refRead03_ok:refRead03.Ok Tryz.prog:=by
 refine con_q Tryz.func39 rfl (by decide) (fun x hx hp=>go0 (cons_ok refPieces_ok nil_ok) 400 ?_) (by decide)
 obtain⟨(t:List UInt8),⟨⟩⟩:=x
 have hz:t.length≤100000000000:=hp
 clear hx hp
 have hpl:=rpc_len t
 simp(maxSteps:=4000000)only[go_sem,reduceIte,reduceCtorEq,Z0,Z1,Z2,Z3,Z4,Z5,Z6,Z7,Z8,Z9,ZA,ZB,ZC,ZD,Tryz.f39,refRead03,refPieces]
 (repeat' first|apply And.intro|intro _)
 all_goals try first|contradiction|omega
 refine OkQ.virt 72 tLine ?_
 refine OkQ.loop (α:=Nat×List LnD) [1,2,3,4,5,6,7,8,9,10,13,14,15,16,17,18,19,20,21,22,23,24,25,26,27,28,29,30,31,32,33,34,35,36,37,38,39,40] (fun x=>[(13,.s (.int .i64 (x.1:Int))),(5,.s (.sub 1 0 x.2.length))]) (fun x=>[(1,.arr false 72 tLine x.2)])
  (fun x=>x.1≤(refPcs t).length∧x.2.length≤x.1∧scFold t (x.1+1) ((refPcs t).drop x.1) x.2=linesV t) (fun x=>(refPcs t).length - x.1) (0,[]) ⟨Nat.zero_le _,Nat.zero_le _,sc_ref t⟩ ?_ fun x hx=>?_
 ·simp(maxSteps:=4000000)only[go_sem,reduceIte,reduceCtorEq,Z0,Z1,Z2,Z3,Z4,Z5,Z6,Z7,Z8,Z9,ZA,ZB,ZC,ZD,refPieces]
  all_goals first|rfl|exact⟨rfl,rfl⟩|exact⟨⟨rfl,rfl⟩,rfl⟩|exact⟨rfl,rfl,rfl⟩|fail
 obtain⟨i,out⟩:=x
 obtain⟨hi,hol,hsc⟩:=hx
 dsimp only at hi hol hsc ⊢
 rcases Nat.lt_or_ge i (refPcs t).length with hlt|hge
 ·obtain⟨hdr,q0,q1,q2,hE⟩:=rpc_at hlt
  have cA:(refPcs t).getD i (0,0,0,())=(refPcs t).getD i pcZ:=rfl
  generalize (refPcs t).getD i pcZ=p at*
  have dl:decide ((i:Int)<((refPcs t).length:Int))=true:=decide_eq_true (by omega)
  rw[hdr,scFold,if_neg hE]at hsc
  have hw:wr .i64 ((i:Int)+1)=((i+1:Nat):Int):=wr_succ (by omega)
  have hl:List.take (p.2.1.toNat - p.1.toNat) (List.drop p.1.toNat t)=lineOf t p:=by
   unfold lineOf
   congr 1
   omega
  have hll:(lineOf t p).length≤t.length:=by unfold lineOf;simp;omega
  by_cases hS:scanE (lineOf t p)=0
  ·have dS:decide (scanE (lineOf t p)=0)=true:=decide_eq_true hS
   have hv:scanV ((i+1:Nat):Int) (lineOf t p)=partsV ((i+1:Nat):Int) (lineOf t p):=if_pos hS
   rw[if_neg (by simp[hS])]at hsc
   refine go0 (cons_ok refScan_ok nil_ok) 200 ?_
   simp(maxSteps:=4000000)only[go_sem,reduceIte,reduceCtorEq,Z0,Z1,Z2,Z3,Z4,Z5,Z6,Z7,Z8,Z9,ZA,ZB,ZC,ZD,dl,cA,hw,hl,dS,hv,refScan]
   (repeat' first|apply And.intro|intro _)
   all_goals try first|contradiction|omega
   exact⟨(i+1,out++[partsV ((i+1:Nat):Int) (lineOf t p)]),⟨by dsimp only;omega,by simp;omega,hsc⟩,by dsimp only;omega,⟨by simp,rfl⟩,rfl⟩
  ·have dS:decide (scanE (lineOf t p)=0)=false:=decide_eq_false hS
   rw[if_pos hS]at hsc
   have e1:=hsc.symm
   refine go0 (cons_ok refScan_ok nil_ok) 200 ?_
   simp(maxSteps:=4000000)only[go_sem,reduceIte,reduceCtorEq,Z0,Z1,Z2,Z3,Z4,Z5,Z6,Z7,Z8,Z9,ZA,ZB,ZC,ZD,dl,cA,hw,hl,dS,e1,refScan]
   (repeat' first|apply And.intro|intro _)
   all_goals first|contradiction|omega|fail
 ·have e:i=(refPcs t).length:=by omega
  subst e
  rw[List.drop_length,scFold]at hsc
  have e1:=hsc.symm
  have dl:decide (((refPcs t).length:Int)<((refPcs t).length:Int))=false:=decide_eq_false (by omega)
  refine go0 (cons_ok refScan_ok nil_ok) 60 ?_
  simp(maxSteps:=4000000)only[go_sem,reduceIte,reduceCtorEq,Z0,Z1,Z2,Z3,Z4,Z5,Z6,Z7,Z8,Z9,ZA,ZB,ZC,ZD,dl,e1,refScan]
  (repeat' first|apply And.intro|intro _)
  all_goals first|contradiction|omega|fail
end Go.Proofs.YtcbmonndkjihkaaGreatDoor.Sx
namespace Go.Proofs.YtcbmonndkjihkaaGreatDoor.Sx
attribute [local irreducible] OkQ Ok
set_option linter.unusedSimpArgs false
set_option linter.unusedVariables false
theorem kPh0:∀c∈[refRead03,refScan6,refHalf6],c.Ok Tryz.prog:=(cons_ok refRead03_ok (cons_ok refScan6_ok (cons_ok refHalf6_ok nil_ok)))
open Nat renaming reduceEqDiff→Z0,reduceBEq→Z1,reduceAdd→Z2,reduceSub→Z3,reduceMul→Z4,reduceLeDiff→Z5
open Int renaming reduceEq→Z6,reduceLE→Z7,reduceLT→Z8,reduceNeg→Z9,reduceToNat→ZA,reduceAdd→ZB,reduceSub→ZC,reduceMul→ZD
set_option maxRecDepth 8000
def wOf:Option LnD→Option WtD
 |none=>none
 |some l=>some (rowR l,l.2.2.2.1,(halfV (fld l 1)).1)
def ovS:Option LnD→SV
 |none=> .s .nils
 |some _=> .s (.sub 2 0 1)
def ovH:Option LnD→Ob
 |none=> .dead
 |some l=> .arr false 72 tLine [l]
theorem half_ex{s a:List UInt8}{b c:Bool}(h:halfV s=(a,b,c))(hc:c=true):b=false:=by
 unfold halfV at h
 split at h
 ·cases h;cases hc
 ·split at h
  ·cases h;rfl
  ·cases h;rfl
theorem last_getD{out:List RowD}(h:out≠[]):(out.getD (out.length - 1) (0,0,0,[],[],0,0,0,false,())).2.2.1=lastR out:=by
 obtain⟨p,r,rfl⟩:∃p r,out=p++[r]:=⟨out.dropLast,out.getLast h,(List.dropLast_concat_getLast h).symm⟩
 rw[last_app]
 simp[List.getD_eq_getElem?_getD]
def refRead6:Con:=⟨15,[(false,.str)],[(false,tRows),(false,.int .i64),(false,.int .i64)],fun x=>(x.1:List UInt8).length≤1000000000,fun x=>((rowsV x.1).2.2,(rowsV x.1).2.1,(rowsV x.1).1,()),false⟩
set_option maxHeartbeats 40000000 in
theorem refRead6_ok:refRead6.Ok Tryz.prog:=by
 refine con_q Tryz.func15 rfl (by decide) (fun x hx hp=>go0 kPh0 0 ?_) (by decide)
 obtain⟨(t:List UInt8),⟨⟩⟩:=x
 have hz:t.length≤1000000000:=hp
 clear hx hp
 by_cases hL:(linesV t).1=0
 case neg=>
  have hV:rowsV t=((linesV t).1,(linesV t).2.1,[]):=if_pos hL
  have dL:decide ((linesV t).1=0)=false:=decide_eq_false hL
  refine go0 kPh0 60 ?_
  simp(maxSteps:=4000000)only[go_sem,reduceIte,reduceCtorEq,Z0,Z1,Z2,Z3,Z4,Z5,Z6,Z7,Z8,Z9,ZA,ZB,ZC,ZD,Tryz.f15,refRead6,dL,hV,refRead03,refScan6,refHalf6]
  (repeat' first|apply And.intro|intro _|(show staB _ _=true;kernel_rfl)|(show dynB _ _=true;kernel_rfl)|(show dynP _ _ _=true;kernel_rfl))
  all_goals first|contradiction|omega|rfl|(show t.length≤_;omega)|fail
 have dL:decide ((linesV t).1=0)=true:=decide_eq_true hL
 have hV:rowsV t=rdFold (linesV t).2.2 [] none:=if_neg (by simp[hL])
 have hcnt:=lines_count t
 have hfl:=lines_fld t
 obtain⟨L,hLd⟩:∃L,L=(linesV t).2.2:=⟨_,rfl⟩
 rw[←hLd]at hV hcnt hfl
 have z0:decide ((0:Int)<0)=false:=by decide
 have z1:decide ((0:Int)<((1:Nat):Int))=true:=by decide
 have z2:decide ((0:Int)<((0:Nat):Int))=false:=by decide
 refine go0 kPh0 60 ?_
 simp(maxSteps:=4000000)only[go_sem,reduceIte,reduceCtorEq,Z0,Z1,Z2,Z3,Z4,Z5,Z6,Z7,Z8,Z9,ZA,ZB,ZC,ZD,Tryz.f15,refRead6,dL,←hLd,refRead03,refScan6,refHalf6]
 (repeat' first|apply And.intro|intro _|(show staB _ _=true;kernel_rfl)|(show dynB _ _=true;kernel_rfl)|(show dynP _ _ _=true;kernel_rfl))
 all_goals try first|contradiction|omega|(show t.length≤_;omega)
 refine OkQ.virt 64 tRow ?_
 refine OkQ.virt 72 tLine ?_
 refine OkQ.loopK (α:=Nat×List RowD×Option LnD) [0,1,2,3,4,6,7,8,9,10,11,12,13,14,15,16,17,18,19,20,21,22,23,24,25,26,27,28,29,30,31,32,33,34,35,36,37,38,39,40,41,42,43,44,45,46,47,48,49,50,51,52,53,54,55,56,57,58,59,60,61,62,63,64,65,66,67,68,69,70,71,72,73,74,75,76,77,78,79,80,81,82,83,84,85,86,87,88,89,90,91,92,93,94,95,96,97,98,99,100,101,102,103,104,105,106,107,108,109,110,111,112,113,114,115,116,117,118,119,120,121,122,123,124,125,126,127,128,129,130,131,132,133,134,135,136,137,138,139,140,141,142,143,144,145,146,147,148,149,150,151,152,153,154,155,156,157,158,159,160,161,162,163,164,165,166,167,168,169,170,171,172,173,174,175,176,177,178,179,180,181,182,183,184,185,186,187,188,189,190,191,192,193,194,195,196,197,198,199,200] (fun x=>[(10,.s (.int .i64 (x.1:Int))),(8,.s (.sub 1 0 x.2.1.length)),(9,ovS x.2.2)]) (fun x=>[(1,.arr false 64 tRow x.2.1),(2,ovH x.2.2)])
  (fun x=>x.1≤L.length∧x.2.1.length≤x.1∧rdFold (L.drop x.1) x.2.1 (wOf x.2.2)=rowsV t∧∀l,x.2.2=some l→rowE l=0∧∀k,(fld l k).length≤1000000000) (fun x=>L.length - x.1) (0,[],none) ⟨Nat.zero_le _,Nat.zero_le _,hV.symm,fun w h=>by cases h⟩ ?_ fun x hx=>?_
 ·simp(maxSteps:=4000000)only[go_sem,reduceIte,reduceCtorEq,Z0,Z1,Z2,Z3,Z4,Z5,Z6,Z7,Z8,Z9,ZA,ZB,ZC,ZD,ovS,ovH,refRead03,refScan6,refHalf6]
  all_goals first|rfl|exact⟨rfl,rfl⟩|exact⟨⟨rfl,rfl⟩,rfl⟩|exact⟨rfl,rfl,rfl⟩|fail
 obtain⟨i,out,o⟩:=x
 obtain⟨hi,hol,hfo,ho15⟩:=hx
 dsimp only at hi hol hfo ho15 ⊢
 rcases Nat.lt_or_ge i L.length with hlt|hge
 case inr=>
  have e:i=L.length:=by omega
  subst e
  rw[List.drop_length]at hfo
  have dl:decide ((L.length:Int)<(L.length:Int))=false:=decide_eq_false (by omega)
  cases o with
  |none=>
   rw[wOf,rdFold]at hfo
   have hfo:=hfo.symm
   refine go0 kPh0 60 ?_
   simp(maxSteps:=4000000)only[go_sem,reduceIte,reduceCtorEq,Z0,Z1,Z2,Z3,Z4,Z5,Z6,Z7,Z8,Z9,ZA,ZB,ZC,ZD,ovS,ovH,dl,z0,z1,z2,hfo,refRead03,refScan6,refHalf6]
   (repeat' first|apply And.intro|intro _|(show staB _ _=true;kernel_rfl)|(show dynB _ _=true;kernel_rfl)|(show dynP _ _ _=true;kernel_rfl))
   all_goals first|contradiction|omega|rfl|(simp;done)|fail
  |some l0=>
   rw[wOf,rdFold]at hfo
   have hfo:=hfo.symm
   refine go0 kPh0 60 ?_
   simp(maxSteps:=4000000)only[go_sem,reduceIte,reduceCtorEq,Z0,Z1,Z2,Z3,Z4,Z5,Z6,Z7,Z8,Z9,ZA,ZB,ZC,ZD,ovS,ovH,dl,z0,z1,z2,hfo,rowR,refRead03,refScan6,refHalf6]
   (repeat' first|apply And.intro|intro _|(show staB _ _=true;kernel_rfl)|(show dynB _ _=true;kernel_rfl)|(show dynP _ _ _=true;kernel_rfl))
   all_goals first|contradiction|omega|rfl|(simp;done)|fail
 obtain⟨hdr,hmem⟩:=line_at hlt
 have hlf:=hfl _ hmem
 have cA:L.getD i (0,0,[],[],[],())=L.getD i lnZ':=rfl
 generalize L.getD i lnZ'=l at*
 rw[hdr]at hfo
 have dl:decide ((i:Int)<(L.length:Int))=true:=decide_eq_true (by omega)
 have hw:wr .i64 ((i:Int)+1)=((i+1:Nat):Int):=wr_succ (by omega)
 have hk:∀k,(fld l k).length≤1000000000:=fun k=>Nat.le_trans (hlf k) hz
 by_cases hS:skipL l=true
 ·have hS':l.2.1=0∨l.2.1=3:=by simpa[skipL]using hS
  by_cases h0:l.2.1=0
  ·have k0:decide (l.2.1=0)=true:=decide_eq_true h0
   cases o with
   |none=>
    rw[rdFold,if_pos hS]at hfo
    refine go0 kPh0 60 ?_
    simp(maxSteps:=4000000)only[go_sem,reduceIte,reduceCtorEq,Z0,Z1,Z2,Z3,Z4,Z5,Z6,Z7,Z8,Z9,ZA,ZB,ZC,ZD,ovS,ovH,dl,cA,hw,k0,refRead03,refScan6,refHalf6]
    (repeat' first|apply And.intro|intro _|(show staB _ _=true;kernel_rfl)|(show dynB _ _=true;kernel_rfl)|(show dynP _ _ _=true;kernel_rfl))
    all_goals try first|contradiction|omega
    refine backK.mk (i+1,out,none) ⟨by dsimp only;omega,by dsimp only;omega,hfo,ho15⟩ (by dsimp only;omega) ?_
    simp(maxSteps:=4000000)only[go_sem,reduceIte,reduceCtorEq,Z0,Z1,Z2,Z3,Z4,Z5,Z6,Z7,Z8,Z9,ZA,ZB,ZC,ZD,ovS,ovH,refRead03,refScan6,refHalf6]
    all_goals first|rfl|exact⟨rfl,rfl⟩|exact⟨⟨rfl,rfl⟩,rfl⟩|fail
   |some l0=>
    rw[rdFold,if_pos hS]at hfo
    refine go0 kPh0 60 ?_
    simp(maxSteps:=4000000)only[go_sem,reduceIte,reduceCtorEq,Z0,Z1,Z2,Z3,Z4,Z5,Z6,Z7,Z8,Z9,ZA,ZB,ZC,ZD,ovS,ovH,dl,cA,hw,k0,refRead03,refScan6,refHalf6]
    (repeat' first|apply And.intro|intro _|(show staB _ _=true;kernel_rfl)|(show dynB _ _=true;kernel_rfl)|(show dynP _ _ _=true;kernel_rfl))
    all_goals try first|contradiction|omega
    refine backK.mk (i+1,out,some l0) ⟨by dsimp only;omega,by dsimp only;omega,hfo,ho15⟩ (by dsimp only;omega) ?_
    simp(maxSteps:=4000000)only[go_sem,reduceIte,reduceCtorEq,Z0,Z1,Z2,Z3,Z4,Z5,Z6,Z7,Z8,Z9,ZA,ZB,ZC,ZD,ovS,ovH,refRead03,refScan6,refHalf6]
    all_goals first|rfl|exact⟨rfl,rfl⟩|exact⟨⟨rfl,rfl⟩,rfl⟩|fail
  ·have k0:decide (l.2.1=0)=false:=decide_eq_false h0
   have k3:decide (l.2.1=3)=true:=decide_eq_true (hS'.resolve_left h0)
   cases o with
   |none=>
    rw[rdFold,if_pos hS]at hfo
    refine go0 kPh0 60 ?_
    simp(maxSteps:=4000000)only[go_sem,reduceIte,reduceCtorEq,Z0,Z1,Z2,Z3,Z4,Z5,Z6,Z7,Z8,Z9,ZA,ZB,ZC,ZD,ovS,ovH,dl,cA,hw,k0,k3,refRead03,refScan6,refHalf6]
    (repeat' first|apply And.intro|intro _|(show staB _ _=true;kernel_rfl)|(show dynB _ _=true;kernel_rfl)|(show dynP _ _ _=true;kernel_rfl))
    all_goals try first|contradiction|omega
    refine backK.mk (i+1,out,none) ⟨by dsimp only;omega,by dsimp only;omega,hfo,ho15⟩ (by dsimp only;omega) ?_
    simp(maxSteps:=4000000)only[go_sem,reduceIte,reduceCtorEq,Z0,Z1,Z2,Z3,Z4,Z5,Z6,Z7,Z8,Z9,ZA,ZB,ZC,ZD,ovS,ovH,refRead03,refScan6,refHalf6]
    all_goals first|rfl|exact⟨rfl,rfl⟩|exact⟨⟨rfl,rfl⟩,rfl⟩|fail
   |some l0=>
    rw[rdFold,if_pos hS]at hfo
    refine go0 kPh0 60 ?_
    simp(maxSteps:=4000000)only[go_sem,reduceIte,reduceCtorEq,Z0,Z1,Z2,Z3,Z4,Z5,Z6,Z7,Z8,Z9,ZA,ZB,ZC,ZD,ovS,ovH,dl,cA,hw,k0,k3,refRead03,refScan6,refHalf6]
    (repeat' first|apply And.intro|intro _|(show staB _ _=true;kernel_rfl)|(show dynB _ _=true;kernel_rfl)|(show dynP _ _ _=true;kernel_rfl))
    all_goals try first|contradiction|omega
    refine backK.mk (i+1,out,some l0) ⟨by dsimp only;omega,by dsimp only;omega,hfo,ho15⟩ (by dsimp only;omega) ?_
    simp(maxSteps:=4000000)only[go_sem,reduceIte,reduceCtorEq,Z0,Z1,Z2,Z3,Z4,Z5,Z6,Z7,Z8,Z9,ZA,ZB,ZC,ZD,ovS,ovH,refRead03,refScan6,refHalf6]
    all_goals first|rfl|exact⟨rfl,rfl⟩|exact⟨⟨rfl,rfl⟩,rfl⟩|fail
 have hS':¬l.2.1=0∧¬l.2.1=3:=by simpa[skipL]using hS
 have k0:decide (l.2.1=0)=false:=decide_eq_false hS'.1
 have k3:decide (l.2.1=3)=false:=decide_eq_false hS'.2
 rw[rdFold,if_neg hS]at hfo
 by_cases hE:rowE l=0
 case neg=>
  have dE:decide (rowE l=0)=false:=decide_eq_false hE
  have hst:stepE out (wOf o) l=rowE l:=by unfold stepE;rw[if_pos hE]
  rw[hst,if_pos hE]at hfo
  have hfo:=hfo.symm
  cases o with
  |none=>
   refine go0 kPh0 100 ?_
   simp(maxSteps:=4000000)only[go_sem,reduceIte,reduceCtorEq,Z0,Z1,Z2,Z3,Z4,Z5,Z6,Z7,Z8,Z9,ZA,ZB,ZC,ZD,ovS,ovH,dl,cA,k0,k3,dE,hfo,refRead03,refScan6,refHalf6]
   (repeat' first|apply And.intro|intro _|(show staB _ _=true;kernel_rfl)|(show dynB _ _=true;kernel_rfl)|(show dynP _ _ _=true;kernel_rfl))
   all_goals first|contradiction|omega|rfl|exact hk|exact hk _|fail
  |some l0=>
   refine go0 kPh0 100 ?_
   simp(maxSteps:=4000000)only[go_sem,reduceIte,reduceCtorEq,Z0,Z1,Z2,Z3,Z4,Z5,Z6,Z7,Z8,Z9,ZA,ZB,ZC,ZD,ovS,ovH,dl,cA,k0,k3,dE,hfo,refRead03,refScan6,refHalf6]
   (repeat' first|apply And.intro|intro _|(show staB _ _=true;kernel_rfl)|(show dynB _ _=true;kernel_rfl)|(show dynP _ _ _=true;kernel_rfl))
   all_goals first|contradiction|omega|rfl|exact hk|exact hk _|fail
 have dE:decide (rowE l=0)=true:=decide_eq_true hE
 obtain⟨hv,hl15,hx0⟩:=row_ok hE
 have hE':¬ ¬rowE l=0:=fun h=>h hE
 obtain⟨hn,hf,hls,hH⟩:∃a b c,halfV (fld l 1)=(a,b,c):=⟨_,_,_,rfl⟩
 have hex:=half_ex hH
 cases o with
 |none=>
  rw[wOf]at hfo
  cases hls
  case true=>
   have hf0:=hex rfl
   subst hf0
   have hst:stepE out none l=61:=by
    unfold stepE
    rw[if_neg hE',hH]
    rfl
   rw[hst,if_pos (by decide)]at hfo
   have hfo:=hfo.symm
   refine go0 kPh0 200 ?_
   simp(maxSteps:=4000000)only[go_sem,reduceIte,reduceCtorEq,Z0,Z1,Z2,Z3,Z4,Z5,Z6,Z7,Z8,Z9,ZA,ZB,ZC,ZD,ovS,ovH,dl,cA,k0,k3,dE,hv,rowR,hH,Bool.false_or,Bool.or_false,Bool.true_or,z0,z1,z2,hfo,refRead03,refScan6,refHalf6]
   (repeat' first|apply And.intro|intro _|(show staB _ _=true;kernel_rfl)|(show dynB _ _=true;kernel_rfl)|(show dynP _ _ _=true;kernel_rfl))
   all_goals first|contradiction|omega|rfl|exact hk|exact hk _|fail
  have hR0:out=[]→lastR out= -1:=fun h=>by rw[h];rfl
  have hwl:wr .i64 ((out.length:Int) - 1)=(out.length:Int) - 1:=wr_i64 (by omega) (by omega)
  have hwt:((out.length:Int) - 1).toNat=out.length - 1:=by omega
  by_cases hR:hexV (fld l 0)≤lastR out
  ·have hon:out≠[]:=fun h=>by rw[hR0 h]at hR;omega
   have hop:0<out.length:=List.length_pos_iff.2 hon
   have do1:decide ((0:Int)<(out.length:Int))=true:=decide_eq_true (by omega)
   have hlg:=last_getD hon
   have dR:decide (hexV (fld l 0)≤lastR out)=true:=decide_eq_true hR
   have hst:stepE out none l=62:=by
    unfold stepE
    rw[if_neg hE',hH]
    show(if(false:Bool)=true then(61:Int)else if hexV (fld l 0)≤lastR out then 62 else 0)=62
    rw[if_neg Bool.false_ne_true,if_pos hR]
   rw[hst,if_pos (by decide)]at hfo
   have hfo:=hfo.symm
   cases hf
   all_goals(
    refine go0 kPh0 200 ?_
    simp(maxSteps:=4000000)only[go_sem,reduceIte,reduceCtorEq,Z0,Z1,Z2,Z3,Z4,Z5,Z6,Z7,Z8,Z9,ZA,ZB,ZC,ZD,ovS,ovH,dl,cA,k0,k3,dE,hv,rowR,hH,Bool.false_or,Bool.or_false,Bool.true_or,z0,z1,z2,do1,hwl,hwt,hlg,dR,hfo,refRead03,refScan6,refHalf6]
    (repeat' first|apply And.intro|intro _|(show staB _ _=true;kernel_rfl)|(show dynB _ _=true;kernel_rfl)|(show dynP _ _ _=true;kernel_rfl))
    all_goals first|contradiction|omega|rfl|exact hk|exact hk _|fail)
  have dR:decide (hexV (fld l 0)≤lastR out)=false:=decide_eq_false hR
  have hst:stepE out none l=0:=by
   unfold stepE
   rw[if_neg hE',hH]
   show(if(false:Bool)=true then(61:Int)else if hexV (fld l 0)≤lastR out then 62 else 0)=0
   rw[if_neg Bool.false_ne_true,if_neg hR]
  rw[hst,if_neg (by decide)]at hfo
  by_cases hon:out=[]
  ·have do1:decide ((0:Int)<(out.length:Int))=false:=decide_eq_false (by rw[hon];decide)
   cases hf
   ·have h1:stepO out none l=out++[rowR l]:=by unfold stepO;rw[hH];rfl
    have h2:stepW none l=none:=by unfold stepW;rw[hH];rfl
    rw[h1,h2]at hfo
    refine go0 kPh0 200 ?_
    simp(maxSteps:=4000000)only[go_sem,reduceIte,reduceCtorEq,Z0,Z1,Z2,Z3,Z4,Z5,Z6,Z7,Z8,Z9,ZA,ZB,ZC,ZD,ovS,ovH,dl,cA,k0,k3,dE,hv,rowR,hH,Bool.false_or,Bool.or_false,Bool.true_or,z0,z1,z2,do1,dR,hw,refRead03,refScan6,refHalf6]
    (repeat' first|apply And.intro|intro _|(show staB _ _=true;kernel_rfl)|(show dynB _ _=true;kernel_rfl)|(show dynP _ _ _=true;kernel_rfl))
    all_goals try first|contradiction|omega|exact hk|exact hk _
    refine backK.mk (i+1,out++[rowR l],none) ⟨by dsimp only;omega,by simp;omega,hfo,fun w h=>by cases h⟩ (by dsimp only;omega) ?_
    simp(maxSteps:=4000000)only[go_sem,reduceIte,reduceCtorEq,Z0,Z1,Z2,Z3,Z4,Z5,Z6,Z7,Z8,Z9,ZA,ZB,ZC,ZD,ovS,ovH,refRead03,refScan6,refHalf6]
    all_goals first|rfl|exact⟨rfl,rfl⟩|exact⟨⟨rfl,by simp⟩,rfl⟩|exact⟨⟨by simp,rfl⟩,rfl⟩|fail
   ·have h1:stepO out none l=out:=by unfold stepO;rw[hH];rfl
    have h2:stepW none l=wOf (some l):=by
     unfold stepW
     show _=some (rowR l,l.2.2.2.1,(halfV (fld l 1)).1)
     rw[hH]
     rfl
    rw[h1,h2]at hfo
    refine go0 kPh0 200 ?_
    simp(maxSteps:=4000000)only[go_sem,reduceIte,reduceCtorEq,Z0,Z1,Z2,Z3,Z4,Z5,Z6,Z7,Z8,Z9,ZA,ZB,ZC,ZD,ovS,ovH,dl,cA,k0,k3,dE,hv,rowR,hH,Bool.false_or,Bool.or_false,Bool.true_or,z0,z1,z2,do1,dR,hw,refRead03,refScan6,refHalf6]
    (repeat' first|apply And.intro|intro _|(show staB _ _=true;kernel_rfl)|(show dynB _ _=true;kernel_rfl)|(show dynP _ _ _=true;kernel_rfl))
    all_goals try first|contradiction|omega|exact hk|exact hk _
    refine backK.mk (i+1,out,some l) ⟨by dsimp only;omega,by dsimp only;omega,hfo,fun w h=>by cases h;exact⟨hE,hk⟩⟩ (by dsimp only;omega) ?_
    simp(maxSteps:=4000000)only[go_sem,reduceIte,reduceCtorEq,Z0,Z1,Z2,Z3,Z4,Z5,Z6,Z7,Z8,Z9,ZA,ZB,ZC,ZD,ovS,ovH,refRead03,refScan6,refHalf6]
    all_goals first|rfl|exact⟨rfl,rfl⟩|exact⟨⟨rfl,rfl⟩,rfl⟩|fail
  ·have hop:0<out.length:=List.length_pos_iff.2 hon
   have do1:decide ((0:Int)<(out.length:Int))=true:=decide_eq_true (by omega)
   have hlg:=last_getD hon
   cases hf
   ·have h1:stepO out none l=out++[rowR l]:=by unfold stepO;rw[hH];rfl
    have h2:stepW none l=none:=by unfold stepW;rw[hH];rfl
    rw[h1,h2]at hfo
    refine go0 kPh0 200 ?_
    simp(maxSteps:=4000000)only[go_sem,reduceIte,reduceCtorEq,Z0,Z1,Z2,Z3,Z4,Z5,Z6,Z7,Z8,Z9,ZA,ZB,ZC,ZD,ovS,ovH,dl,cA,k0,k3,dE,hv,rowR,hH,Bool.false_or,Bool.or_false,Bool.true_or,z0,z1,z2,do1,hwl,hwt,hlg,dR,hw,refRead03,refScan6,refHalf6]
    (repeat' first|apply And.intro|intro _|(show staB _ _=true;kernel_rfl)|(show dynB _ _=true;kernel_rfl)|(show dynP _ _ _=true;kernel_rfl))
    all_goals try first|contradiction|omega|exact hk|exact hk _
    refine backK.mk (i+1,out++[rowR l],none) ⟨by dsimp only;omega,by simp;omega,hfo,fun w h=>by cases h⟩ (by dsimp only;omega) ?_
    simp(maxSteps:=4000000)only[go_sem,reduceIte,reduceCtorEq,Z0,Z1,Z2,Z3,Z4,Z5,Z6,Z7,Z8,Z9,ZA,ZB,ZC,ZD,ovS,ovH,refRead03,refScan6,refHalf6]
    all_goals first|rfl|exact⟨rfl,rfl⟩|exact⟨⟨rfl,by simp⟩,rfl⟩|exact⟨⟨by simp,rfl⟩,rfl⟩|fail
   ·have h1:stepO out none l=out:=by unfold stepO;rw[hH];rfl
    have h2:stepW none l=wOf (some l):=by
     unfold stepW
     show _=some (rowR l,l.2.2.2.1,(halfV (fld l 1)).1)
     rw[hH]
     rfl
    rw[h1,h2]at hfo
    refine go0 kPh0 200 ?_
    simp(maxSteps:=4000000)only[go_sem,reduceIte,reduceCtorEq,Z0,Z1,Z2,Z3,Z4,Z5,Z6,Z7,Z8,Z9,ZA,ZB,ZC,ZD,ovS,ovH,dl,cA,k0,k3,dE,hv,rowR,hH,Bool.false_or,Bool.or_false,Bool.true_or,z0,z1,z2,do1,hwl,hwt,hlg,dR,hw,refRead03,refScan6,refHalf6]
    (repeat' first|apply And.intro|intro _|(show staB _ _=true;kernel_rfl)|(show dynB _ _=true;kernel_rfl)|(show dynP _ _ _=true;kernel_rfl))
    all_goals try first|contradiction|omega|exact hk|exact hk _
    refine backK.mk (i+1,out,some l) ⟨by dsimp only;omega,by dsimp only;omega,hfo,fun w h=>by cases h;exact⟨hE,hk⟩⟩ (by dsimp only;omega) ?_
    simp(maxSteps:=4000000)only[go_sem,reduceIte,reduceCtorEq,Z0,Z1,Z2,Z3,Z4,Z5,Z6,Z7,Z8,Z9,ZA,ZB,ZC,ZD,ovS,ovH,refRead03,refScan6,refHalf6]
    all_goals first|rfl|exact⟨rfl,rfl⟩|exact⟨⟨rfl,rfl⟩,rfl⟩|fail
 |some l0=>
  obtain⟨hE0,hk0⟩:=ho15 l0 rfl
  obtain⟨hv0,h15,hx00⟩:=row_ok hE0
  obtain⟨n0,f0,b0,hH0⟩:∃a b c,halfV (fld l0 1)=(a,b,c):=⟨_,_,_,rfl⟩
  have cB:([l0]:List LnD).getD 0 (0,0,[],[],[],())=l0:=rfl
  rw[wOf,hH0]at hfo
  have hst:stepE out (some (rowR l0,l0.2.2.2.1,n0)) l=joinE (rowR l0,l0.2.2.2.1,n0) l (rowR l):=by
   unfold stepE
   rw[if_neg hE']
  have hj:joinE (rowR l0,l0.2.2.2.1,n0) l (rowR l)=if hls=false∨hn≠n0 then 61 else if hexV (fld l 0)≤hexV (fld l0 0)then 62 else if pairB l.2.2.2.1 l0.2.2.2.1=false then 67 else 0:=by
   unfold joinE
   rw[show(rowR l).2.2.2.1=fld l 1 from rfl,hH]
   rfl
  by_cases q1:hls=false∨hn≠n0
  ·rw[hst,hj,if_pos q1,if_pos (by decide)]at hfo
   have hfo:=hfo.symm
   cases hls
   ·cases hf
    all_goals(
     refine go0 kPh0 200 ?_
     simp(maxSteps:=4000000)only[go_sem,reduceIte,reduceCtorEq,Z0,Z1,Z2,Z3,Z4,Z5,Z6,Z7,Z8,Z9,ZA,ZB,ZC,ZD,ovS,ovH,dl,cA,k0,k3,dE,hv,hv0,rowR,hH,Bool.false_or,Bool.or_false,Bool.true_or,hH0,cB,z0,z1,z2,hfo,refRead03,refScan6,refHalf6]
     (repeat' first|apply And.intro|intro _|(show staB _ _=true;kernel_rfl)|(show dynB _ _=true;kernel_rfl)|(show dynP _ _ _=true;kernel_rfl))
     all_goals first|contradiction|omega|rfl|exact hk|exact hk _|exact hk0|exact hk0 _|fail)
   ·have hf0:=hex rfl
    subst hf0
    have dn:decide (hn=n0)=false:=decide_eq_false (q1.resolve_left (by simp))
    refine go0 kPh0 200 ?_
    simp(maxSteps:=4000000)only[go_sem,reduceIte,reduceCtorEq,Z0,Z1,Z2,Z3,Z4,Z5,Z6,Z7,Z8,Z9,ZA,ZB,ZC,ZD,ovS,ovH,dl,cA,k0,k3,dE,hv,hv0,rowR,hH,Bool.false_or,Bool.or_false,Bool.true_or,hH0,cB,z0,z1,z2,dn,hfo,refRead03,refScan6,refHalf6]
    (repeat' first|apply And.intro|intro _|(show staB _ _=true;kernel_rfl)|(show dynB _ _=true;kernel_rfl)|(show dynP _ _ _=true;kernel_rfl))
    all_goals first|contradiction|omega|rfl|exact hk|exact hk _|exact hk0|exact hk0 _|fail
  have q2:hls=true∧hn=n0:=⟨by
   cases hls
   ·exact(q1 (.inl rfl)).elim
   ·rfl,Classical.byContradiction fun h=>q1 (.inr h)⟩
  obtain⟨rfl,q3⟩:=q2
  have hf0:=hex rfl
  subst hf0
  have dn:decide (hn=n0)=true:=decide_eq_true q3
  rw[if_neg q1]at hj
  by_cases hR:hexV (fld l 0)≤hexV (fld l0 0)
  ·have dR:decide (hexV (fld l 0)≤hexV (fld l0 0))=true:=decide_eq_true hR
   rw[hst,hj,if_pos hR,if_pos (by decide)]at hfo
   have hfo:=hfo.symm
   refine go0 kPh0 200 ?_
   simp(maxSteps:=4000000)only[go_sem,reduceIte,reduceCtorEq,Z0,Z1,Z2,Z3,Z4,Z5,Z6,Z7,Z8,Z9,ZA,ZB,ZC,ZD,ovS,ovH,dl,cA,k0,k3,dE,hv,hv0,rowR,hH,Bool.false_or,Bool.or_false,Bool.true_or,hH0,cB,z0,z1,z2,dn,dR,hfo,refRead03,refScan6,refHalf6]
   (repeat' first|apply And.intro|intro _|(show staB _ _=true;kernel_rfl)|(show dynB _ _=true;kernel_rfl)|(show dynP _ _ _=true;kernel_rfl))
   all_goals first|contradiction|omega|rfl|exact hk|exact hk _|exact hk0|exact hk0 _|fail
  have dR:decide (hexV (fld l 0)≤hexV (fld l0 0))=false:=decide_eq_false hR
  rw[if_neg hR]at hj
  refine go0 kPh0 200 ?_
  simp(maxSteps:=4000000)only[go_sem,reduceIte,reduceCtorEq,Z0,Z1,Z2,Z3,Z4,Z5,Z6,Z7,Z8,Z9,ZA,ZB,ZC,ZD,ovS,ovH,dl,cA,k0,k3,dE,hv,hv0,rowR,hH,Bool.false_or,Bool.or_false,Bool.true_or,hH0,cB,z0,z1,z2,dn,dR,refRead03,refScan6,refHalf6]
  (repeat' first|apply And.intro|intro _|(show staB _ _=true;kernel_rfl)|(show dynB _ _=true;kernel_rfl)|(show dynP _ _ _=true;kernel_rfl))
  all_goals try first|contradiction|omega|exact hk|exact hk _|exact hk0|exact hk0 _
  refine OkQ.loop (α:=Nat) [0,1,2,3,4,6,7,12,14,15,17,18,19,20,21,22,23,24,25,26,27,28,29,30,31,32,33,34,35,36,37,38,39,40,41,42,43,44,45,46,47,48,49,50,51,52,53,54,55,56,57,58,59,60,61,62,63,64,65,66,67,68,69,70,71,72,73,74,75,76,77,78,79,80,81,82,83,84,85,86,87,88,89,90,91,92,93,94,95,96,97,98,99,100,101,102,103,104,105,106,107,108,109,110,111,112,113,114,115,116,117,118,119,120,121,122,123,124,125,126,127,128,129,130,131,132,133,134,135,136,137,138,139,140,141,142,143,144,145,146,147,148,149,150,151,152,153,154,155,156,157,158,159,160,161,162,163,164,165,166,167,168,169,170,171,172,173,174,175,176,177,178,179,180,181,182,183,184,185,186,187,188,189,190,191,192,193,194,195,196,197,198,199,200] (fun j=>[(21,.s (.int .i64 (j:Int)))]) (fun _=>[]) (fun j=>2≤j∧j≤15∧∀k,2≤k→k<j→l.2.2.2.1.getD k []=l0.2.2.2.1.getD k []) (fun j=>15 - j) 2 ⟨Nat.le_refl _,by omega,fun k h1 h2=>by omega⟩ ?_ fun j hjj=>?_
  ·simp(maxSteps:=4000000)only[go_sem,reduceIte,reduceCtorEq,Z0,Z1,Z2,Z3,Z4,Z5,Z6,Z7,Z8,Z9,ZA,ZB,ZC,ZD,refRead03,refScan6,refHalf6]
   all_goals first|rfl|exact⟨rfl,rfl⟩|exact⟨⟨rfl,rfl⟩,rfl⟩|fail
  obtain⟨j2,j15,hall⟩:=hjj
  rcases Nat.lt_or_ge j 15 with jl|jg
  ·have dj:decide ((j:Int)<15)=true:=decide_eq_true (by omega)
   have hwj:wr .i64 ((j:Int)+1)=((j+1:Nat):Int):=wr_succ (by omega)
   by_cases hq:l.2.2.2.1.getD j []=l0.2.2.2.1.getD j []
   ·have dq:decide (l.2.2.2.1.getD j []=l0.2.2.2.1.getD j [])=true:=decide_eq_true hq
    refine go0 kPh0 60 ?_
    simp(maxSteps:=4000000)only[go_sem,reduceIte,reduceCtorEq,Z0,Z1,Z2,Z3,Z4,Z5,Z6,Z7,Z8,Z9,ZA,ZB,ZC,ZD,cA,cB,dj,dq,hwj,refRead03,refScan6,refHalf6]
    (repeat' first|apply And.intro|intro _|(show staB _ _=true;kernel_rfl)|(show dynB _ _=true;kernel_rfl)|(show dynP _ _ _=true;kernel_rfl))
    all_goals try first|contradiction|omega
    refine⟨j+1,⟨by omega,by omega,fun k h1 h2=>?_⟩,by omega,?_⟩
    ·by_cases hkj:k=j
     ·rw[hkj];exact hq
     ·exact hall k h1 (by omega)
    ·first|rfl|fail
   ·have dq:decide (l.2.2.2.1.getD j []=l0.2.2.2.1.getD j [])=false:=decide_eq_false hq
    have hpF:pairB l.2.2.2.1 l0.2.2.2.1=false:=by
     rw[←Bool.not_eq_true]
     exact fun h=>hq (pair_at h j2 jl)
    rw[hst,hj,if_pos hpF,if_pos (by decide)]at hfo
    have hfo:=hfo.symm
    refine go0 kPh0 200 ?_
    simp(maxSteps:=4000000)only[go_sem,reduceIte,reduceCtorEq,Z0,Z1,Z2,Z3,Z4,Z5,Z6,Z7,Z8,Z9,ZA,ZB,ZC,ZD,cA,cB,dj,dq,hfo,refRead03,refScan6,refHalf6]
    (repeat' first|apply And.intro|intro _|(show staB _ _=true;kernel_rfl)|(show dynB _ _=true;kernel_rfl)|(show dynP _ _ _=true;kernel_rfl))
    all_goals first|contradiction|omega|rfl|fail
  ·have e:j=15:=by omega
   subst e
   have hpT:pairB l.2.2.2.1 l0.2.2.2.1=true:=pair_of fun k h1 h2=>hall k h1 h2
   have hj0:joinE (rowR l0,l0.2.2.2.1,n0) l (rowR l)=0:=by rw[hj,if_neg (by rw[hpT];simp)]
   rw[hst,hj0,if_neg (by decide)]at hfo
   have h1:stepO out (some (rowR l0,l0.2.2.2.1,n0)) l=out++[joinR (rowR l0,l0.2.2.2.1,n0) (rowR l)]:=rfl
   have h2:stepW (some (rowR l0,l0.2.2.2.1,n0)) l=wOf none:=rfl
   have hJ:joinR (rowR l0,l0.2.2.2.1,n0) (rowR l)=((rowR l0).1,(rowR l0).2.1,hexV (fld l 0),hn,(rowR l0).2.2.2.2):=by
    unfold joinR
    rw[show(rowR l).2.2.2.1=fld l 1 from rfl,hH]
    rfl
   rw[h1,h2]at hfo
   have d15:decide (((15:Nat):Int)<15)=false:=by decide
   refine go0 kPh0 200 ?_
   simp(maxSteps:=4000000)only[go_sem,reduceIte,reduceCtorEq,Z0,Z1,Z2,Z3,Z4,Z5,Z6,Z7,Z8,Z9,ZA,ZB,ZC,ZD,d15,hw,refRead03,refScan6,refHalf6]
   (repeat' first|apply And.intro|intro _|(show staB _ _=true;kernel_rfl)|(show dynB _ _=true;kernel_rfl)|(show dynP _ _ _=true;kernel_rfl))
   all_goals try first|contradiction|omega
   refine backK.mk (i+1,out++[joinR (rowR l0,l0.2.2.2.1,n0) (rowR l)],none) ⟨by dsimp only;omega,by simp;omega,hfo,fun w h=>by cases h⟩ (by dsimp only;omega) ?_
   rw[hJ]
   simp(maxSteps:=4000000)only[go_sem,reduceIte,reduceCtorEq,Z0,Z1,Z2,Z3,Z4,Z5,Z6,Z7,Z8,Z9,ZA,ZB,ZC,ZD,ovS,ovH,rowR,refRead03,refScan6,refHalf6]
   all_goals first|rfl|exact⟨rfl,rfl⟩|exact⟨⟨rfl,by simp⟩,rfl⟩|exact⟨⟨by simp,rfl⟩,rfl⟩|fail
end Go.Proofs.YtcbmonndkjihkaaGreatDoor.Sx
namespace Go.Proofs.YtcbmonndkjihkaaGreatDoor.Sx
attribute [local irreducible] OkQ Ok
set_option linter.unusedSimpArgs false
set_option linter.unusedVariables false
theorem kTd0:∀c∈[refShow,refShort],c.Ok Tryz.prog:=(cons_ok refShow_ok (cons_ok refShort_ok nil_ok))
open Nat renaming reduceEqDiff→Z0,reduceBEq→Z1,reduceAdd→Z2,reduceSub→Z3,reduceMul→Z4,reduceLeDiff→Z5
open Int renaming reduceEq→Z6,reduceLE→Z7,reduceLT→Z8,reduceNeg→Z9,reduceToNat→ZA,reduceAdd→ZB,reduceSub→ZC,reduceMul→ZD
set_option maxRecDepth 8000
theorem wr_u8b{n:Int}(h:0≤n)(h':n≤255):wr .u8 n=n:=by unfold wr;simp[IntKind.wrap,IntKind.bits,IntKind.signed];omega
theorem digB(u:Nat)(h:u≤9223372036854775807):bsL [wr .u8 (wr .i64 (48+(u:Int).tmod 10))]=[UInt8.ofNat (48+u % 10)]:=by
 have e:(u:Int).tmod 10=((u % 10:Nat):Int):=by rw[Int.tmod_eq_emod_of_nonneg (by omega)];rfl
 rw[e,wr_i64 (by omega) (by omega),wr_u8b (by omega) (by omega)]
 simp only[bsL,List.map_cons,List.map_nil]
 congr 2
theorem digE{u:Nat}(h:¬9<u):bsL [wr .u8 (wr .i64 (48+(u:Int)))]=[UInt8.ofNat (48+u)]:=by
 rw[wr_i64 (by omega) (by omega),wr_u8b (by omega) (by omega)]
 simp only[bsL,List.map_cons,List.map_nil]
 congr 2
theorem digStep{N u:Nat}{s:List UInt8}(h:Lib.decDigits N=Lib.decDigits u++s)(hu:(9:Int)<(u:Int))(hle:u≤N)(hN:N≤9223372036854775807):
 ∃y:Nat×List UInt8,(Lib.decDigits N=Lib.decDigits y.1++y.2∧y.1≤N)∧y.1<u∧wr .i64 ((u:Int).tdiv 10)=(y.1:Int)∧UInt8.ofNat (48+u % 10)::s=y.2:=by
 have hu':9<u:=by omega
 refine⟨(u / 10,UInt8.ofNat (48+u % 10)::s),⟨?_,by show u / 10≤N;omega⟩,by show u / 10<u;omega,?_,rfl⟩
 ·rw[h,dig_step hu',List.append_assoc];rfl
 ·have e:(u:Int).tdiv 10=((u / 10:Nat):Int):=by rw[Int.tdiv_eq_ediv_of_nonneg (by omega)];rfl
  rw[e,wr_i64 (by omega) (by omega)]
theorem cls_in{c:Int}(h:1≤c∧c≤23):dShort c=(nmV c).1:=by
 obtain⟨k,rfl⟩:∃k:Nat,c=(k:Int):=⟨c.toNat,by omega⟩
 exact((dcls_short k (by omega) (by omega)).2.2).symm
theorem cls_out{c:Int}(h:¬(1≤c∧c≤23)):(nmV c).1=[]:=by
 by_cases h1:1≤c
 ·rw[nmV_big (by omega)]
 ·unfold nmV
  rw[if_neg h1]
def clsL(c:Int):List UInt8:=(nmV c).1
theorem lineR_cat(r:RowD)(name:List UInt8)(x:Int):lineR r name x=showV x++59::(name++59::(r.2.2.2.2.1++59::(Lib.itoa r.2.2.2.2.2.1++59::(clsL r.2.2.2.2.2.2.1++59::(twinV r++59::59::59::59::(flagV r++[59,59,59,59,59,10])))))):=by
 unfold lineR cellsL clsL
 rw[Lib.join_cons]
 simp[Lib.joinTail]
def refLine6:Con:=⟨74,[(true,tRow),(false,.str),(false,.int .i32)],[(false,.str)],fun x=>x.1.2.2.2.2.1.length≤100000000∧(x.2.1:List UInt8).length≤100000000,fun x=>(lineR x.1 x.2.1 x.2.2.1,()),false⟩
set_option maxHeartbeats 4000000 in
theorem refLine6_ok:refLine6.Ok Tryz.prog:=by
 refine con_q Tryz.func74 rfl (by decide) (fun x hx hp=>go0 kTd0 0 ?_) (by decide)
 obtain⟨⟨(no:Int),(fi:Int),(la:Int),(nm:List UInt8),(cat:List UInt8),(cb:Int),(cl:Int),(tw:Int),(mi:Bool),⟨⟩⟩,(name:List UInt8),(x:Int),⟨⟩⟩:=x
 have hcu:IntKind.u8.has cb:=hx.1.2.2.2.2.2.1
 obtain⟨(h1:cat.length≤100000000),(h2:name.length≤100000000)⟩:=hp
 have hc':0≤cb∧cb≤255:=by simpa[IntKind.has,IntKind.min,IntKind.max,IntKind.signed,IntKind.bits]using hcu
 clear hx
 have hw:wr .i64 cb=cb:=wr_i64 (by omega) (by omega)
 have hl:=show_len x
 have hlt:=show_len tw
 have hln:=nmV_len cl
 have hcat:=lineR_cat (no,fi,la,nm,cat,cb,cl,tw,mi,()) name x
 have hu:cb=(cb.toNat:Int):=by omega
 have hD:Lib.itoa cb=Lib.decDigits cb.toNat:=by rw[Lib.itoa,if_neg (by omega)]
 have hil:=itoa_len (n:=cb) (by omega) (by omega)
 refine go0 kTd0 40 ?_
 simp(maxSteps:=4000000)only[go_sem,reduceIte,reduceCtorEq,Z0,Z1,Z2,Z3,Z4,Z5,Z6,Z7,Z8,Z9,ZA,ZB,ZC,ZD,Tryz.f74,refLine6,hw,refShow,refShort]
 (repeat' first|apply And.intro|intro _)
 all_goals try first|contradiction|omega
 refine OkQ.loop (α:=Nat×List UInt8) [0,2,4,5,6,8,9,10,11,12,13,14,15,16,17,18,19,20,21,22,23,24,25,26,27,28,29,30,31,32,33,34,35,36,37,38,39,40,41,42,43,44,45,46,47,48,49,50,51,52,53,54,55,56,57,58,59,60,61,62,63,64,65,66,67,68,69,70,71,72,73,74,75,76,77,78,79,80,81,82,83] (fun p=>[(9,.s (.int .i64 (p.1:Int))),(10,.s (.str p.2))]) (fun _=>[]) (fun p=>Lib.decDigits cb.toNat=Lib.decDigits p.1++p.2∧p.1≤cb.toNat) (fun p=>p.1) (cb.toNat,[]) ⟨by simp,Nat.le_refl _⟩ ?_ fun p hp=>?_
 ·simp(maxSteps:=4000000)only[go_sem,reduceIte,reduceCtorEq,Z0,Z1,Z2,Z3,Z4,Z5,Z6,Z7,Z8,Z9,ZA,ZB,ZC,ZD,refShow,refShort]
  all_goals first|omega|exact hu|exact⟨hu,rfl⟩|fail
 obtain⟨u,s⟩:=p
 obtain⟨(hs:Lib.decDigits cb.toNat=Lib.decDigits u++s),(hle:u≤cb.toNat)⟩:=hp
 have hB:=digB u (by omega)
 have hsl:s.length≤20:=by
  have:=congrArg List.length hs
  rw[hD]at hil
  simp at this hil
  omega
 by_cases h9:9<u
 ·have d9:decide ((9:Int)<(u:Int))=true:=decide_eq_true (by omega)
  refine go0 kTd0 30 ?_
  simp(maxSteps:=4000000)only[go_sem,reduceIte,reduceCtorEq,Z0,Z1,Z2,Z3,Z4,Z5,Z6,Z7,Z8,Z9,ZA,ZB,ZC,ZD,hB,d9,refShow,refShort]
  (repeat' first|apply And.intro|intro _)
  all_goals first|contradiction|omega|exact digStep hs (by omega) hle (by omega)|fail
 have d9:decide ((9:Int)<(u:Int))=false:=decide_eq_false (by omega)
 have hE:=digE h9
 have hI:UInt8.ofNat (48+u)::s=Lib.itoa cb:=by rw[hD,hs,dig_end h9];rfl
 have hcl:(if 1≤cl∧cl≤23 then dShort cl else [])=clsL cl:=by
  split
  ·exact cls_in ‹_›
  ·exact(cls_out ‹_›).symm
 have hcl2:=dShort_len cl
 obtain⟨CL,hCL⟩:∃w,w=clsL cl:=⟨_,rfl⟩
 rw[←hCL]at hcl
 have hcat:_=showV x++59::(name++59::(cat++59::(Lib.itoa cb++59::(clsL cl++59::(_++59::59::59::59::(_++[59,59,59,59,59,10])))))):=hcat
 rw[←hCL]at hcat
 clear hCL
 obtain⟨TW,hTW⟩:∃w,w=twinV (no,fi,la,nm,cat,cb,cl,tw,mi,()):=⟨_,rfl⟩
 obtain⟨FL,hFL⟩:∃w,w=flagV (no,fi,la,nm,cat,cb,cl,tw,mi,()):=⟨_,rfl⟩
 rw[←hTW,←hFL]at hcat
 have htw:(if tw=0 then []else showV tw)=TW:=hTW.symm
 have hfl:(if mi=true then [89]else [78])=FL:=hFL.symm
 clear hTW hFL
 obtain⟨B1,d1⟩:∃B,decide (1≤cl)=B:=⟨_,rfl⟩
 obtain⟨B2,d2⟩:∃B,decide (cl≤23)=B:=⟨_,rfl⟩
 obtain⟨B3,d3⟩:∃B,decide (tw=0)=B:=⟨_,rfl⟩
 cases B1<;>cases B2<;>cases B3<;>cases mi
 all_goals
  have q1:=d1
  have q2:=d2
  have q3:=d3
  simp only[decide_eq_true_eq,decide_eq_false_iff_not]at q1 q2 q3
  simp only[q1,q2,q3,and_self,and_true,true_and,and_false,false_and,if_true,if_false,Bool.false_eq_true]at hcl htw hfl
  subst htw hfl hcl
  refine go0 kTd0 300 ?_
  simp(maxSteps:=4000000)only[go_sem,reduceIte,reduceCtorEq,Z0,Z1,Z2,Z3,Z4,Z5,Z6,Z7,Z8,Z9,ZA,ZB,ZC,ZD,hE,d9,d1,d2,d3,hI,refShow,refShort]
  (repeat' first|apply And.intro|intro _)
 all_goals try first|contradiction|omega
 all_goals
  refine Eq.trans ?_ hcat.symm
  simp only[List.append_assoc,List.cons_append,List.nil_append]
end Go.Proofs.YtcbmonndkjihkaaGreatDoor.Sx
namespace Go.Proofs.YtcbmonndkjihkaaGreatDoor.Sx
attribute [local irreducible] OkQ Ok
set_option linter.unusedSimpArgs false
set_option linter.unusedVariables false
theorem kTe0:∀c∈[refLine6,refRead6,refSame6],c.Ok Tryz.prog:=(cons_ok refLine6_ok (cons_ok refRead6_ok (cons_ok refSame6_ok nil_ok)))
open Nat renaming reduceEqDiff→Z0,reduceBEq→Z1,reduceAdd→Z2,reduceSub→Z3,reduceMul→Z4,reduceLeDiff→Z5
open Int renaming reduceEq→Z6,reduceLE→Z7,reduceLT→Z8,reduceNeg→Z9,reduceToNat→ZA,reduceAdd→ZB,reduceSub→ZC,reduceMul→ZD
set_option maxRecDepth 8000
noncomputable def refOne6:Con:=⟨50,[(true,tRow)],[(false,.str),(false,.bool)],fun x=>smallR x.1,fun x=>(if rightB x.1=true then oneV x.1 else [],rightB x.1,()),false⟩
set_option maxHeartbeats 4000000 in
theorem refOne6_ok:refOne6.Ok Tryz.prog:=by
 refine con_q Tryz.func50 rfl (by decide) (fun x hx hp=>go0 kTe0 0 ?_) (by decide)
 obtain⟨⟨(no:Int),(fi:Int),(la:Int),(nm:List UInt8),(cat:List UInt8),(cb:Int),(cl:Int),(tw:Int),(mi:Bool),⟨⟩⟩,⟨⟩⟩:=x
 have hcu:IntKind.u8.has cb:=hx.1.2.2.2.2.2.1
 have hsm:smallR (no,fi,la,nm,cat,cb,cl,tw,mi,()):=hp
 have hol:=one_len hsm hcu
 obtain⟨(h1:cat.length≤10000000),(h2:nm.length≤10000000)⟩:=hp
 clear hx
 have f1:(60::(nm++[44,32,70,105,114,115,116,62])).length≤100000000:=by simp;omega
 have f2:(60::(nm++[44,32,76,97,115,116,62])).length≤100000000:=by simp;omega
 have g0:=line_len (r:=(no,fi,la,nm,cat,cb,cl,tw,mi,())) (name:=nm) (x:=fi) (show cat.length≤_ by omega) (by omega) hcu
 have g1:=line_len (r:=(no,fi,la,nm,cat,cb,cl,tw,mi,())) (x:=fi) (show cat.length≤_ by omega) f1 hcu
 have g2:=line_len (r:=(no,fi,la,nm,cat,cb,cl,tw,mi,())) (x:=la) (show cat.length≤_ by omega) f2 hcu
 have hR:rightB (no,fi,la,nm,cat,cb,cl,tw,mi,())=(decide ((rowsV (oneV (no,fi,la,nm,cat,cb,cl,tw,mi,()))).1=0)&&decide ((rowsV (oneV (no,fi,la,nm,cat,cb,cl,tw,mi,()))).2.2.map noLn=[noLn (no,fi,la,nm,cat,cb,cl,tw,mi,())])):=rfl
 obtain⟨t,ht⟩:∃t,t=oneV (no,fi,la,nm,cat,cb,cl,tw,mi,()):=⟨_,rfl⟩
 rw[←ht]at hol hR
 by_cases h0:fi=la
 ·have d0:decide (fi=la)=true:=decide_eq_true h0
  have e:lineR (no,fi,la,nm,cat,cb,cl,tw,mi,()) nm fi=t:=by rw[ht];exact(if_pos h0).symm
  by_cases hE:(rowsV t).1=0
  case neg=>
   have dE:decide ((rowsV t).1=0)=false:=decide_eq_false hE
   have hv:rightB (no,fi,la,nm,cat,cb,cl,tw,mi,())=false:=by rw[hR,dE];rfl
   refine go0 kTe0 150 ?_
   simp(maxSteps:=4000000)only[go_sem,reduceIte,reduceCtorEq,Z0,Z1,Z2,Z3,Z4,Z5,Z6,Z7,Z8,Z9,ZA,ZB,ZC,ZD,Tryz.f50,refOne6,d0,e,dE,hv,refLine6,refRead6,refSame6]
   (repeat' first|apply And.intro|intro _|(show staB _ _=true;kernel_rfl)|(show dynB _ _=true;kernel_rfl)|(show dynP _ _ _=true;kernel_rfl))
   all_goals first|contradiction|omega|rfl|fail
  have dE:decide ((rowsV t).1=0)=true:=decide_eq_true hE
  rw[dE,Bool.true_and]at hR
  obtain⟨L,hL⟩:∃L,L=(rowsV t).2.2:=⟨_,rfl⟩
  rw[←hL]at hR
  match L,hL,hR with
  |[],hL,hR=>
   have hv:rightB (no,fi,la,nm,cat,cb,cl,tw,mi,())=false:=by rw[hR];exact decide_eq_false (by simp)
   refine go0 kTe0 150 ?_
   simp(maxSteps:=4000000)only[go_sem,reduceIte,reduceCtorEq,Z0,Z1,Z2,Z3,Z4,Z5,Z6,Z7,Z8,Z9,ZA,ZB,ZC,ZD,Tryz.f50,refOne6,d0,e,dE,hv,←hL,refLine6,refRead6,refSame6]
   (repeat' first|apply And.intro|intro _|(show staB _ _=true;kernel_rfl)|(show dynB _ _=true;kernel_rfl)|(show dynP _ _ _=true;kernel_rfl))
   all_goals first|contradiction|omega|rfl|fail
  |[a],hL,hR=>
   obtain⟨ano,afi,ala,anm,acat,acb,acl,atw,ami,⟨⟩⟩:=a
   have hR:rightB (no,fi,la,nm,cat,cb,cl,tw,mi,())=decide (noLn (ano,afi,ala,anm,acat,acb,acl,atw,ami,())=noLn (no,fi,la,nm,cat,cb,cl,tw,mi,())):=by
    rw[hR,Bool.eq_iff_iff,decide_eq_true_eq,decide_eq_true_eq]
    exact⟨fun h=>(List.cons.inj h).1,fun h=>congrArg (fun z=>[z]) h⟩
   cases hq:decide (noLn (ano,afi,ala,anm,acat,acb,acl,atw,ami,())=noLn (no,fi,la,nm,cat,cb,cl,tw,mi,()))
   all_goals
    have hv:=hR.trans hq
    have hg:[((ano,afi,ala,anm,acat,acb,acl,atw,ami,()):RowD)].getD 0 (0,0,0,[],[],0,0,0,false,())=(ano,afi,ala,anm,acat,acb,acl,atw,ami,()):=rfl
    refine go0 kTe0 150 ?_
    simp(maxSteps:=4000000)only[go_sem,reduceIte,reduceCtorEq,Z0,Z1,Z2,Z3,Z4,Z5,Z6,Z7,Z8,Z9,ZA,ZB,ZC,ZD,Tryz.f50,refOne6,d0,e,dE,hv,←hL,hg,hq,refLine6,refRead6,refSame6]
    (repeat' first|apply And.intro|intro _|(show staB _ _=true;kernel_rfl)|(show dynB _ _=true;kernel_rfl)|(show dynP _ _ _=true;kernel_rfl))
   all_goals first|contradiction|omega|rfl|exact ht|exact ht.symm|fail
  |a::b::l,hL,hR=>
   have hv:rightB (no,fi,la,nm,cat,cb,cl,tw,mi,())=false:=by rw[hR];exact decide_eq_false (by simp)
   have d1:decide (((l.length+1+1:Nat):Int)=1)=false:=decide_eq_false (by omega)
   refine go0 kTe0 150 ?_
   simp(maxSteps:=4000000)only[go_sem,reduceIte,reduceCtorEq,Z0,Z1,Z2,Z3,Z4,Z5,Z6,Z7,Z8,Z9,ZA,ZB,ZC,ZD,Tryz.f50,refOne6,d0,e,dE,hv,←hL,d1,refLine6,refRead6,refSame6]
   (repeat' first|apply And.intro|intro _|(show staB _ _=true;kernel_rfl)|(show dynB _ _=true;kernel_rfl)|(show dynP _ _ _=true;kernel_rfl))
   all_goals first|contradiction|omega|rfl|fail
 ·have d0:decide (fi=la)=false:=decide_eq_false h0
  have e:lineR (no,fi,la,nm,cat,cb,cl,tw,mi,()) (60::(nm++[44,32,70,105,114,115,116,62])) fi++lineR (no,fi,la,nm,cat,cb,cl,tw,mi,()) (60::(nm++[44,32,76,97,115,116,62])) la=t:=by rw[ht];exact(if_neg h0).symm
  by_cases hE:(rowsV t).1=0
  case neg=>
   have dE:decide ((rowsV t).1=0)=false:=decide_eq_false hE
   have hv:rightB (no,fi,la,nm,cat,cb,cl,tw,mi,())=false:=by rw[hR,dE];rfl
   refine go0 kTe0 150 ?_
   simp(maxSteps:=4000000)only[go_sem,reduceIte,reduceCtorEq,Z0,Z1,Z2,Z3,Z4,Z5,Z6,Z7,Z8,Z9,ZA,ZB,ZC,ZD,Tryz.f50,refOne6,d0,e,dE,hv,refLine6,refRead6,refSame6]
   (repeat' first|apply And.intro|intro _|(show staB _ _=true;kernel_rfl)|(show dynB _ _=true;kernel_rfl)|(show dynP _ _ _=true;kernel_rfl))
   all_goals first|contradiction|omega|rfl|fail
  have dE:decide ((rowsV t).1=0)=true:=decide_eq_true hE
  rw[dE,Bool.true_and]at hR
  obtain⟨L,hL⟩:∃L,L=(rowsV t).2.2:=⟨_,rfl⟩
  rw[←hL]at hR
  match L,hL,hR with
  |[],hL,hR=>
   have hv:rightB (no,fi,la,nm,cat,cb,cl,tw,mi,())=false:=by rw[hR];exact decide_eq_false (by simp)
   refine go0 kTe0 150 ?_
   simp(maxSteps:=4000000)only[go_sem,reduceIte,reduceCtorEq,Z0,Z1,Z2,Z3,Z4,Z5,Z6,Z7,Z8,Z9,ZA,ZB,ZC,ZD,Tryz.f50,refOne6,d0,e,dE,hv,←hL,refLine6,refRead6,refSame6]
   (repeat' first|apply And.intro|intro _|(show staB _ _=true;kernel_rfl)|(show dynB _ _=true;kernel_rfl)|(show dynP _ _ _=true;kernel_rfl))
   all_goals first|contradiction|omega|rfl|fail
  |[a],hL,hR=>
   obtain⟨ano,afi,ala,anm,acat,acb,acl,atw,ami,⟨⟩⟩:=a
   have hR:rightB (no,fi,la,nm,cat,cb,cl,tw,mi,())=decide (noLn (ano,afi,ala,anm,acat,acb,acl,atw,ami,())=noLn (no,fi,la,nm,cat,cb,cl,tw,mi,())):=by
    rw[hR,Bool.eq_iff_iff,decide_eq_true_eq,decide_eq_true_eq]
    exact⟨fun h=>(List.cons.inj h).1,fun h=>congrArg (fun z=>[z]) h⟩
   cases hq:decide (noLn (ano,afi,ala,anm,acat,acb,acl,atw,ami,())=noLn (no,fi,la,nm,cat,cb,cl,tw,mi,()))
   all_goals
    have hv:=hR.trans hq
    have hg:[((ano,afi,ala,anm,acat,acb,acl,atw,ami,()):RowD)].getD 0 (0,0,0,[],[],0,0,0,false,())=(ano,afi,ala,anm,acat,acb,acl,atw,ami,()):=rfl
    refine go0 kTe0 150 ?_
    simp(maxSteps:=4000000)only[go_sem,reduceIte,reduceCtorEq,Z0,Z1,Z2,Z3,Z4,Z5,Z6,Z7,Z8,Z9,ZA,ZB,ZC,ZD,Tryz.f50,refOne6,d0,e,dE,hv,←hL,hg,hq,refLine6,refRead6,refSame6]
    (repeat' first|apply And.intro|intro _|(show staB _ _=true;kernel_rfl)|(show dynB _ _=true;kernel_rfl)|(show dynP _ _ _=true;kernel_rfl))
   all_goals first|contradiction|omega|rfl|exact ht|exact ht.symm|fail
  |a::b::l,hL,hR=>
   have hv:rightB (no,fi,la,nm,cat,cb,cl,tw,mi,())=false:=by rw[hR];exact decide_eq_false (by simp)
   have d1:decide (((l.length+1+1:Nat):Int)=1)=false:=decide_eq_false (by omega)
   refine go0 kTe0 150 ?_
   simp(maxSteps:=4000000)only[go_sem,reduceIte,reduceCtorEq,Z0,Z1,Z2,Z3,Z4,Z5,Z6,Z7,Z8,Z9,ZA,ZB,ZC,ZD,Tryz.f50,refOne6,d0,e,dE,hv,←hL,d1,refLine6,refRead6,refSame6]
   (repeat' first|apply And.intro|intro _|(show staB _ _=true;kernel_rfl)|(show dynB _ _=true;kernel_rfl)|(show dynP _ _ _=true;kernel_rfl))
   all_goals first|contradiction|omega|rfl|fail
end Go.Proofs.YtcbmonndkjihkaaGreatDoor.Sx
namespace Go.Proofs.YtcbmonndkjihkaaGreatDoor.Sx
attribute [local irreducible] OkQ Ok
set_option linter.unusedSimpArgs false
set_option linter.unusedVariables false
open Nat renaming reduceEqDiff→Z0,reduceBEq→Z1,reduceAdd→Z2,reduceSub→Z3,reduceMul→Z4,reduceLeDiff→Z5
open Int renaming reduceEq→Z6,reduceLE→Z7,reduceLT→Z8,reduceNeg→Z9,reduceToNat→ZA,reduceAdd→ZB,reduceSub→ZC,reduceMul→ZD
set_option maxRecDepth 8000
attribute [local irreducible] smallR
noncomputable def refCheck6:Con:=⟨26,[(false,tRows)],[(false,.int .i64)],fun x=>∀r∈(x.1:List RowD),smallR r,fun x=>(chkR none x.1,()),false⟩
set_option maxHeartbeats 2000000 in
theorem refCheck6_ok:refCheck6.Ok Tryz.prog:=by
 refine con_q Tryz.func26 rfl (by decide) (fun x hx hp=>go0 (cons_ok refOne6_ok nil_ok) 0 ?_) (by decide)
 obtain⟨(xs:List RowD),⟨⟩⟩:=x
 have hsz:xs.length*64≤140737488355328:=hx.1.1
 have hsm:∀r∈xs,smallR r:=hp
 clear hx hp
 refine go0 (cons_ok refOne6_ok nil_ok) 100 ?_
 simp(maxSteps:=4000000)only[go_sem,reduceIte,reduceCtorEq,Z0,Z1,Z2,Z3,Z4,Z5,Z6,Z7,Z8,Z9,ZA,ZB,ZC,ZD,Tryz.f26,refCheck6,refOne6]
 (repeat' first|apply And.intro|intro _|(show staB _ _=true;kernel_rfl)|(show dynB _ _=true;kernel_rfl)|(show dynP _ _ _=true;kernel_rfl))
 all_goals try first|contradiction|omega
 refine OkQ.loop (α:=Nat) [1,2,3,4,5,6,7,8,9,10,11,12,13,14,15,16,17,18,19,20,21,22,23,24,25,26,27,28,29,30,31,32,33,34,35,36,37] (fun i=>[(3,.s (.int .i64 (i:Int)))]) (fun _=>[]) (fun i=>i≤xs.length∧chkR none xs=chkR (prevR xs i) (xs.drop i)) (fun i=>xs.length - i) 0 ⟨Nat.zero_le _,rfl⟩ ?_ fun i hi=>?_
 ·simp(maxSteps:=4000000)only[go_sem,reduceIte,reduceCtorEq,Z0,Z1,Z2,Z3,Z4,Z5,Z6,Z7,Z8,Z9,ZA,ZB,ZC,ZD,refOne6]
  all_goals first|rfl|exact⟨rfl,rfl⟩|fail
 obtain⟨hi,hck⟩:=hi
 rcases Nat.lt_or_ge i xs.length with hlt|hge
 ·have dl:decide ((i:Int)<(xs.length:Int))=true:=decide_eq_true (by omega)
  have hwi:wr .i64 ((i:Int)+1)=((i+1:Nat):Int):=wr_succ (by omega)
  rw[chkR_at hlt]at hck
  have hs:smallR (xs.getD i rowZ):=by
   rw[List.getD_eq_getElem?_getD,List.getElem?_eq_getElem hlt]
   exact hsm _ (List.getElem_mem hlt)
  obtain⟨⟨no,fi,la,nm,cat,cb,cl,tw,mi,⟨⟩⟩,hx⟩:∃x:RowD,x=xs.getD i rowZ:=⟨_,rfl⟩
  rw[←hx]at hck hs
  have hg:xs.getD i (0,0,0,[],[],0,0,0,false,())=(no,fi,la,nm,cat,cb,cl,tw,mi,()):=hx.symm
  cases hB:rightB (no,fi,la,nm,cat,cb,cl,tw,mi,())
  ·rw[if_pos hB]at hck
   refine go0 (cons_ok refOne6_ok nil_ok) 100 ?_
   simp(maxSteps:=4000000)only[go_sem,reduceIte,reduceCtorEq,Z0,Z1,Z2,Z3,Z4,Z5,Z6,Z7,Z8,Z9,ZA,ZB,ZC,ZD,dl,hwi,hg,hB,hck,refOne6]
   (repeat' first|apply And.intro|intro _|(show staB _ _=true;kernel_rfl)|(show dynB _ _=true;kernel_rfl)|(show dynP _ _ _=true;kernel_rfl))
   all_goals first|contradiction|omega|exact hs|rfl|trivial|fail
  rw[if_neg (by rw[hB];simp)]at hck
  by_cases h0:i=0
  ·have d0:decide (0<(i:Int))=false:=decide_eq_false (by omega)
   rw[if_neg (by omega)]at hck
   refine go0 (cons_ok refOne6_ok nil_ok) 100 ?_
   simp(maxSteps:=4000000)only[go_sem,reduceIte,reduceCtorEq,Z0,Z1,Z2,Z3,Z4,Z5,Z6,Z7,Z8,Z9,ZA,ZB,ZC,ZD,dl,hwi,hg,hB,d0,refOne6]
   (repeat' first|apply And.intro|intro _|(show staB _ _=true;kernel_rfl)|(show dynB _ _=true;kernel_rfl)|(show dynP _ _ _=true;kernel_rfl))
   all_goals first|contradiction|omega|exact hs|exact⟨i+1,⟨by omega,hck⟩,by omega,rfl⟩|fail
  have d0:decide (0<(i:Int))=true:=decide_eq_true (by omega)
  have hwp:wr .i64 ((i:Int) - 1)=((i - 1:Nat):Int):=by rw[wr_i64 (by omega) (by omega)];omega
  obtain⟨b,hb⟩:∃b,b=(xs.getD (i - 1) (0,0,0,[],[],0,0,0,false,())).2.2.1:=⟨_,rfl⟩
  rw[show(xs.getD (i - 1) rowZ).2.2.1=b from hb.symm]at hck
  by_cases h1:fi≤b
  ·have d1:decide (fi≤b)=true:=decide_eq_true h1
   rw[if_pos ⟨by omega,h1⟩]at hck
   refine go0 (cons_ok refOne6_ok nil_ok) 100 ?_
   simp(maxSteps:=4000000)only[go_sem,reduceIte,reduceCtorEq,Z0,Z1,Z2,Z3,Z4,Z5,Z6,Z7,Z8,Z9,ZA,ZB,ZC,ZD,dl,hwi,hg,hB,d0,hwp,←hb,d1,hck,refOne6]
   (repeat' first|apply And.intro|intro _|(show staB _ _=true;kernel_rfl)|(show dynB _ _=true;kernel_rfl)|(show dynP _ _ _=true;kernel_rfl))
   all_goals first|contradiction|omega|exact hs|rfl|trivial|fail
  ·have d1:decide (fi≤b)=false:=decide_eq_false h1
   rw[if_neg fun h=>h1 h.2]at hck
   refine go0 (cons_ok refOne6_ok nil_ok) 100 ?_
   simp(maxSteps:=4000000)only[go_sem,reduceIte,reduceCtorEq,Z0,Z1,Z2,Z3,Z4,Z5,Z6,Z7,Z8,Z9,ZA,ZB,ZC,ZD,dl,hwi,hg,hB,d0,hwp,←hb,d1,refOne6]
   (repeat' first|apply And.intro|intro _|(show staB _ _=true;kernel_rfl)|(show dynB _ _=true;kernel_rfl)|(show dynP _ _ _=true;kernel_rfl))
   all_goals first|contradiction|omega|exact hs|exact⟨i+1,⟨by omega,hck⟩,by omega,rfl⟩|fail
 obtain rfl:i=xs.length:=by omega
 have dl:decide ((xs.length:Int)<(xs.length:Int))=false:=decide_eq_false (by omega)
 rw[List.drop_length]at hck
 have hck:chkR none xs=0:=hck.trans (by unfold chkR;rfl)
 refine go0 (cons_ok refOne6_ok nil_ok) 20 ?_
 simp(maxSteps:=4000000)only[go_sem,reduceIte,reduceCtorEq,Z0,Z1,Z2,Z3,Z4,Z5,Z6,Z7,Z8,Z9,ZA,ZB,ZC,ZD,dl,hck,refOne6]
 (repeat' first|apply And.intro|intro _|(show staB _ _=true;kernel_rfl)|(show dynB _ _=true;kernel_rfl)|(show dynP _ _ _=true;kernel_rfl))
 all_goals first|contradiction|omega|rfl|trivial|fail
theorem chk_right:∀(l:List RowD) (p:Option Int),chkR p l=0→∀r∈l,rightB r=true
 |[],_,_,_,h=>by cases h
 |x::l,p,hc,r,hr=>by
  rw[chkR]at hc
  split at hc
  ·cases hc
  ·split at hc
   ·cases hc
   ·rename_i h1 _
    rcases List.mem_cons.1 hr with rfl|hr
    ·simpa using h1
    ·exact chk_right l _ hc r hr
noncomputable def refPrint6:Con:=⟨24,[(false,tRows)],[(false,.str),(false,.int .i64)],fun x=>(∀r∈(x.1:List RowD),smallR r)∧((x.1:List RowD).map oneV).flatten.length≤140737488355328,fun x=>(printV x.1,chkR none x.1,()),false⟩
set_option maxHeartbeats 2000000 in
theorem refPrint6_ok:refPrint6.Ok Tryz.prog:=by
 refine con_q Tryz.func24 rfl (by decide) (fun x hx hp=>go0 (cons_ok refCheck6_ok (cons_ok refOne6_ok nil_ok)) 0 ?_) (by decide)
 obtain⟨(xs:List RowD),⟨⟩⟩:=x
 have hsz:xs.length*64≤140737488355328:=hx.1.1
 obtain⟨(hsm:∀r∈xs,smallR r),(hfl:(xs.map oneV).flatten.length≤140737488355328)⟩:=hp
 clear hx
 by_cases hE:chkR none xs=0
 case neg=>
  have dE:decide (chkR none xs=0)=false:=decide_eq_false hE
  have hv:printV xs=[]:=if_neg hE
  refine go0 (cons_ok refCheck6_ok (cons_ok refOne6_ok nil_ok)) 40 ?_
  simp(maxSteps:=4000000)only[go_sem,reduceIte,reduceCtorEq,Z0,Z1,Z2,Z3,Z4,Z5,Z6,Z7,Z8,Z9,ZA,ZB,ZC,ZD,Tryz.f24,refPrint6,dE,hv,refCheck6,refOne6]
  (repeat' first|apply And.intro|intro _)
  all_goals first|contradiction|omega|exact hsm|exact hsm _ ‹_› |rfl|trivial|fail
 have dE:decide (chkR none xs=0)=true:=decide_eq_true hE
 have hv:printV xs=(xs.map oneV).flatten:=if_pos hE
 refine go0 (cons_ok refCheck6_ok (cons_ok refOne6_ok nil_ok)) 40 ?_
 simp(maxSteps:=4000000)only[go_sem,reduceIte,reduceCtorEq,Z0,Z1,Z2,Z3,Z4,Z5,Z6,Z7,Z8,Z9,ZA,ZB,ZC,ZD,Tryz.f24,refPrint6,dE,hv,refCheck6,refOne6]
 (repeat' first|apply And.intro|intro _)
 all_goals try first|contradiction|omega|exact hsm|exact hsm _ ‹_›
 refine OkQ.loop (α:=Nat) [1,2,3,4,5,6,7,8,9,10,11,12,13,14,15,16,17,18,19,20,21,22,23,24,25,26,27,28,29,30,31] (fun i=>[(5,.s (.str ((xs.take i).map oneV).flatten)),(6,.s (.int .i64 (i:Int)))]) (fun _=>[]) (fun i=>i≤xs.length) (fun i=>xs.length - i) 0 (Nat.zero_le _) ?_ fun i hi=>?_
 ·simp(maxSteps:=4000000)only[go_sem,reduceIte,reduceCtorEq,Z0,Z1,Z2,Z3,Z4,Z5,Z6,Z7,Z8,Z9,ZA,ZB,ZC,ZD,refCheck6,refOne6]
  all_goals first|rfl|exact⟨rfl,rfl⟩|fail
 obtain⟨D,hD⟩:∃D,D=((xs.take i).map oneV).flatten:=⟨_,rfl⟩
 rw[←hD]
 rcases Nat.lt_or_ge i xs.length with hlt|hge
 ·have dl:decide ((i:Int)<(xs.length:Int))=true:=decide_eq_true (by omega)
  have hwi:wr .i64 ((i:Int)+1)=((i+1:Nat):Int):=wr_succ (by omega)
  have hnx:=flat_next hlt
  have hmem:xs.getD i rowZ∈xs:=by
   rw[List.getD_eq_getElem?_getD,List.getElem?_eq_getElem hlt]
   exact List.getElem_mem hlt
  have hs:=hsm _ hmem
  have hB:=chk_right xs none hE _ hmem
  have hle:=flat_le (l:=xs) (i+1)
  obtain⟨⟨no,fi,la,nm,cat,cb,cl,tw,mi,⟨⟩⟩,hx⟩:∃x:RowD,x=xs.getD i rowZ:=⟨_,rfl⟩
  rw[←hx]at hnx hs hB
  have hg:xs.getD i (0,0,0,[],[],0,0,0,false,())=(no,fi,la,nm,cat,cb,cl,tw,mi,()):=hx.symm
  rw[hnx,←hD,List.length_append]at hle
  obtain⟨o,ho⟩:∃o,o=oneV (no,fi,la,nm,cat,cb,cl,tw,mi,()):=⟨_,rfl⟩
  rw[←ho,←hD]at hnx
  rw[←ho]at hle
  refine go0 (cons_ok refOne6_ok nil_ok) 100 ?_
  simp(maxSteps:=4000000)only[go_sem,reduceIte,reduceCtorEq,Z0,Z1,Z2,Z3,Z4,Z5,Z6,Z7,Z8,Z9,ZA,ZB,ZC,ZD,dl,hwi,hg,hB,←ho,refOne6]
  (repeat' first|apply And.intro|intro _)
  all_goals first|contradiction|omega|exact hs|exact⟨i+1,by omega,by omega,hnx.symm,rfl⟩|fail
 obtain rfl:i=xs.length:=by omega
 have dl:decide ((xs.length:Int)<(xs.length:Int))=false:=decide_eq_false (by omega)
 rw[List.take_length]at hD
 refine go0 (cons_ok refOne6_ok nil_ok) 20 ?_
 simp(maxSteps:=4000000)only[go_sem,reduceIte,reduceCtorEq,Z0,Z1,Z2,Z3,Z4,Z5,Z6,Z7,Z8,Z9,ZA,ZB,ZC,ZD,dl,refOne6]
 (repeat' first|apply And.intro|intro _)
 all_goals first|contradiction|omega|rfl|exact hD|exact hE.symm|trivial|fail
end Go.Proofs.YtcbmonndkjihkaaGreatDoor.Sx
namespace Go.Proofs.YtcbmonndkjihkaaGreatDoor.Sx
attribute [local irreducible] OkQ Ok
set_option linter.unusedSimpArgs false
set_option linter.unusedVariables false
open Nat renaming reduceEqDiff→Z0,reduceBEq→Z1,reduceAdd→Z2,reduceSub→Z3,reduceMul→Z4,reduceLeDiff→Z5
open Int renaming reduceEq→Z6,reduceLE→Z7,reduceLT→Z8,reduceNeg→Z9,reduceToNat→ZA,reduceAdd→ZB,reduceSub→ZC,reduceMul→ZD
set_option maxRecDepth 8000
def inRow(r:Int)(x:RowD):Bool:=decide (x.2.1≤r)&&decide (r≤x.2.2.1)
def findV(l:List RowD)(r:Int):Option RowD:=l.find? (inRow r)
noncomputable def rowsFind:Con:=⟨21,[(false,tRows),(false,.int .i32)],[(true,tRow),(false,.bool)],fun _=>True,fun x=>((findV x.1 x.2.1).getD rowZ,(findV x.1 x.2.1).isSome,()),false⟩
theorem find_step{l:List RowD}{r:Int}{i:Nat}(hi:i<l.length):findV (l.drop i) r=if inRow r (l.getD i rowZ)=true then some (l.getD i rowZ)else findV (l.drop (i+1)) r:=by
 have e:l.getD i rowZ=l[i]:=by simp[List.getD_eq_getElem?_getD,hi]
 rw[List.drop_eq_getElem_cons hi,findV,List.find?_cons,e]
 cases inRow r l[i]<;>simp[findV]
theorem find_end{l:List RowD}{r:Int}{i:Nat}(hi:l.length≤i):findV (l.drop i) r=none:=by rw[List.drop_eq_nil_of_le hi];rfl
theorem rowsFind_ok:rowsFind.Ok Tryz.prog:=by
 refine con_q Tryz.func21 rfl (by decide) (fun x hx hp=>go0 nil_ok 400 ?_) (by decide)
 obtain⟨(xs:List RowD),(r:Int),⟨⟩⟩:=x
 have hsz:xs.length*64≤140737488355328:=hx.1.1
 clear hx hp
 simp(maxSteps:=4000000)only[go_sem,reduceIte,reduceCtorEq,Z0,Z1,Z2,Z3,Z4,Z5,Z6,Z7,Z8,Z9,ZA,ZB,ZC,ZD,Tryz.f21,rowsFind]
 refine OkQ.loop (α:=Nat) [0,2,3,5,6,7,10,11,12,13,14,15,16,17,18,19,20,21,22,23,24,25,26] (fun i=>[(10,.s (.int .i64 (i:Int)))]) (fun _=>[]) (fun i=>i≤xs.length∧findV xs r=findV (xs.drop i) r) (fun i=>xs.length - i) 0 ⟨by simp,by simp⟩ ?_ fun i hi=>?_
 ·simp(maxSteps:=4000000)only[go_sem,reduceIte,reduceCtorEq,Z0,Z1,Z2,Z3,Z4,Z5,Z6,Z7,Z8,Z9,ZA,ZB,ZC,ZD]
  rfl
 ·refine go0 nil_ok 400 ?_
  simp(maxSteps:=4000000)only[go_sem,reduceIte,reduceCtorEq,Z0,Z1,Z2,Z3,Z4,Z5,Z6,Z7,Z8,Z9,ZA,ZB,ZC,ZD,Tryz.f21,rowsFind]
  obtain⟨hi,ht⟩:=hi
  (repeat' first|apply And.intro|intro _)
  all_goals try omega
  all_goals first
   |(have e:findV xs r=some (xs.getD i rowZ):=by
      rw[ht,find_step (by omega),if_pos (by simp only[inRow,Bool.and_eq_true,decide_eq_true_eq];assumption)]
     rw[e];rfl)
   |(have e:findV xs r=none:=by
      rw[ht];exact find_end (by omega)
     rw[e];rfl)
   |(refine⟨i+1,⟨by omega,?_⟩,by omega,by rw[wr_i64 (by omega) (by omega)];simp⟩
     rw[ht,find_step (by omega),if_neg (by simp only[inRow,Bool.and_eq_true,decide_eq_true_eq,Classical.not_and_iff_not_or_not];assumption)])
   |fail
def rA:RowD:=(1,65,65,[76,65,84,73,78,32,67,65,80,73,84,65,76,32,76,69,84,84,69,82,32,65],[76,117],0,1,0,false,())
def rB:RowD:=(2,13312,19893,[88],[76,111],0,2,0,true,())
def txA:List UInt8:=(([48,48,52,49,59,76,65,84,73,78,32,67,65,80,73,84,65,76,32,76,69,84,84,69,82,32,65,59,76,117,59,48,59,76,59,59,59,59,59,78,59,59,59,59,48,48,54,49,59,10,51,52,48,48,59,60,88,44]:List UInt8).append [32,70,105,114,115,116,62,59,76,111,59,48,59,82,59,59,59,59,59,89,59,59,59,59,59,10,52,68,66,53,59,60,88,44,32,76,97,115,116,62,59,76,111,59,48,59,82,59,59,59,59,59,89,59,59,59,59,59,10])
def txB:List UInt8:=([10,48,48,52,49,59,65,59,76,117,59,48,59,90,59,59,59,59,59,78,59,59,59,59,59,10]:List UInt8)
theorem rv1:rowsV txA=(0,0,[rA,rB]):=by kernel_rfl
theorem rv2:rowsV txB=(50,2,[]):=by kernel_rfl
theorem fv1:findV [rA,rB] 13568=some rB:=by kernel_rfl
theorem asOk:hitB asL 16 44 46=true:=by decide
theorem asAll:AsHit Tryz.prog 16 44 46∧∀args w,(callFunc 16 args).run Tryz.prog w= .ok (.enter 16 args) w:=Hits.ok _ _ _ asOk
def rowRead1:Con:=⟨14,[(false,.str),(false,.str)],[(false,tRows),(false,.opq)],fun x=>(x.2.1:List UInt8)=txA,fun _=>([rA,rB],.nilIface,()),false⟩
theorem rowRead1_ok:rowRead1.Ok Tryz.prog where
 enters:=rowRead_ok.enters
 calls S w vs x hS hg har hwf hp i:=by
  have hp:(x.2.1:List UInt8)=txA:=hp
  have e:rowsV x.2.1=(0,0,[rA,rB]):=by rw[hp];exact rv1
  have h:=rowRead_ok.calls S w vs x hS hg har hwf ⟨(by show List.length x.2.1≤1000000000;rw[hp];decide+kernel),(by show(rowsV x.2.1).1=0;rw[e])⟩ i
  have e2:rowRead.F x=rowRead1.F x:=by
   show((rowsV x.2.1).2.2,Value.nilIface,())=([rA,rB],Value.nilIface,())
   rw[e]
  have h:Calls Tryz.prog 14 vs.toArray w (ResPost S [(false,tRows),(false,.opq)] (rowRead.F x) i w):=h
  rw[e2]at h
  exact h
def rowRead1X:XCon:=⟨14,[(false,.str),(false,.str)],[(false,[.nils])],44,48,fun x=>(x.1:List UInt8)=[102]∧(x.2.1:List UInt8)=txB,fun _=>[.str [102],.int .i64 2,.int .i64 50]⟩
theorem rowRead1X_ok:rowRead1X.Ok Tryz.prog where
 enters:=rowReadX_ok.enters
 calls S w vs x hS hg har hwf hp:=by
  obtain⟨h1,h2⟩:(x.1:List UInt8)=[102]∧(x.2.1:List UInt8)=txB:=hp
  have e:rowsV x.2.1=(50,2,[]):=by rw[h2];exact rv2
  have h:=rowReadX_ok.calls S w vs x hS hg har hwf ⟨(by show List.length x.2.1≤1000000000;rw[h2];decide+kernel),(by show¬(rowsV x.2.1).1=0;rw[e];decide)⟩
  have e2:rowReadX.F x=rowRead1X.F x:=by
   show [S1.str x.1,S1.int .i64 (rowsV x.2.1).2.1,S1.int .i64 (rowsV x.2.1).1]=[.str [102],.int .i64 2,.int .i64 50]
   rw[e,h1]
  unfold XCon.Post at h ⊢
  rw[e2]at h
  exact h
def awake06:Con:=⟨13,[],[(false,.bool)],fun _=>True,fun _=>(true,()),false⟩
set_option maxHeartbeats 4000000 in
theorem awake06_ok:awake06.Ok Tryz.prog:=by
 refine con_q Tryz.func13 rfl (by decide) (fun x hx hp=>go0 (cons_ok rowRead1_ok (cons_ok rowsFind_ok nil_ok)) 0 ?_) (by decide)
 clear hx hp
 have gB:([rA,rB]:List RowD).getD 1 (0,0,0,[],[],0,0,0,false,())=rB:=rfl
 have hl:([rA,rB]:List RowD).length=2:=rfl
 have d0:decide (((2:Nat):Int)=2)=true:=by decide
 have d1:decide (([88]:List UInt8)=[88])=true:=by decide
 have d2:decide ((19893:Int)=19893)=true:=by decide
 have d3:decide ((2:Int)=2)=true:=by decide
 have d4:decide ((13312:Int)=13312)=true:=by decide
 have d5:decide ((50:Int)=50)=true:=by decide
 refine go0 (cons_ok rowRead1_ok (cons_ok rowsFind_ok nil_ok)) 9 ?_
 simp(maxSteps:=4000000)only[go_sem,reduceIte,reduceCtorEq,Z0,Z1,Z2,Z3,Z4,Z5,Z6,Z7,Z8,Z9,ZA,ZB,ZC,ZD,Tryz.f13,awake06,oneN,rowRead1,rowsFind]
 (repeat' first|apply And.intro|intro _)
 all_goals try first|contradiction|omega|exact trivial|(show _=txA;rfl)
 dsimp only
 have b1:rB.2.1=13312:=rfl
 have b2:rB.2.2.1=19893:=rfl
 have b3:rB.2.2.2.1=[88]:=rfl
 have b6:rB.2.2.2.2.2.2.1=2:=rfl
 have b8:rB.2.2.2.2.2.2.2.2.1=true:=rfl
 refine run_ok (Cs:=[rowRead1,rowsFind]) (stp:=[4]) (inl:=[]) (unr:=false) (cons_ok rowRead1_ok (cons_ok rowsFind_ok nil_ok)) 70 _ _ _ _ ?_
 simp(maxSteps:=4000000)only[go_sem,reduceIte,reduceCtorEq,Z0,Z1,Z2,Z3,Z4,Z5,Z6,Z7,Z8,Z9,ZA,ZB,ZC,ZD,gB,hl,d0,d1,d2,d3,b2,b3,b6,b8,oneN,rowRead1,rowsFind]
 (repeat' first|apply And.intro|intro _)
 all_goals try first|contradiction|omega|exact trivial
 refine go0 (cons_ok rowsFind_ok nil_ok) 40 ?_
 simp(maxSteps:=4000000)only[go_sem,reduceIte,reduceCtorEq,Z0,Z1,Z2,Z3,Z4,Z5,Z6,Z7,Z8,Z9,ZA,ZB,ZC,ZD,fv1,Option.getD_some,Option.isSome_some,oneN,rowsFind]
 (repeat' first|apply And.intro|intro _)
 all_goals try first|contradiction|omega|exact trivial
 refine OkQ.xcall rowRead1X_ok ([102],txB,()) rfl (.inl rfl) rfl (by trivial) rfl ⟨rfl,rfl⟩ ?_
 refine run_ok (Cs:=[rowsFind]) (stp:=[7]) (inl:=[]) (unr:=false) (cons_ok rowsFind_ok nil_ok) 30 _ _ _ _ ?_
 simp(maxSteps:=4000000)only[go_sem,reduceIte,reduceCtorEq,Z0,Z1,Z2,Z3,Z4,Z5,Z6,Z7,Z8,Z9,ZA,ZB,ZC,ZD,rowRead1X,oneN,rowsFind]
 (repeat' first|apply And.intro|intro _)
 all_goals try first|contradiction|omega|exact trivial
 refine go0 (cons_ok rowsFind_ok nil_ok) 11 ?_
 simp(maxSteps:=4000000)only[go_sem,reduceIte,reduceCtorEq,Z0,Z1,Z2,Z3,Z4,Z5,Z6,Z7,Z8,Z9,ZA,ZB,ZC,ZD,b1,d4,oneN,rowsFind]
 (repeat' first|apply And.intro|intro _)
 all_goals try first|contradiction|omega|exact trivial
 refine OkQ.asHit (o1:=2) (o2:=3) (off:=0) asAll.1 asAll.2 rfl (.inr ⟨_,_,rfl,by kernel_rfl⟩) rfl rfl rfl (by refine⟨?_,?_,?_⟩<;>first|trivial|exact⟨rfl,trivial⟩) rfl rfl ?_
 refine go0 (cons_ok rowsFind_ok nil_ok) 60 ?_
 simp(maxSteps:=4000000)only[go_sem,reduceIte,reduceCtorEq,Z0,Z1,Z2,Z3,Z4,Z5,Z6,Z7,Z8,Z9,ZA,ZB,ZC,ZD,oneN,d3,d5,awake06,rowsFind]
 (repeat' first|apply And.intro|intro _)
 all_goals first|contradiction|omega|rfl|trivial|fail
end Go.Proofs.YtcbmonndkjihkaaGreatDoor.Sx
namespace Go.Proofs.YtcbmonndkjihkaaGreatDoor.Sx
attribute [local irreducible] OkQ Ok
set_option linter.unusedSimpArgs false
set_option linter.unusedVariables false
theorem bITg27:bodyI Tryz.prog 27=bodyF Tryz.f27:=by kernel_rfl
theorem nETg27:isEsc Tryz.prog 27=false:=by kernel_rfl
theorem bITg22:bodyI Tryz.prog 22=bodyF Tryz.f22:=by kernel_rfl
theorem nETg22:isEsc Tryz.prog 22=false:=by kernel_rfl
open Nat renaming reduceEqDiff→Z0,reduceBEq→Z1,reduceAdd→Z2,reduceSub→Z3,reduceMul→Z4,reduceLeDiff→Z5
open Int renaming reduceEq→Z6,reduceLE→Z7,reduceLT→Z8,reduceNeg→Z9,reduceToNat→ZA,reduceAdd→ZB,reduceSub→ZC,reduceMul→ZD
set_option maxRecDepth 8000
theorem sum_mem{f:RowD→Nat}:∀ {l:List RowD} {x:RowD},x∈l→f x≤(l.map f).sum
 |y::l,x,h=>by
  rw[List.map_cons,List.sum_cons]
  rcases List.mem_cons.1 h with rfl|h
  ·omega
  ·have:=sum_mem (f:=f) h
   omega
theorem rows_small{l:List RowD}(h:(l.map tRow.bulk).sum≤1048576):∀r∈l,smallR r:=fun r hr=>by
 have h1:=sum_mem (f:=tRow.bulk) hr
 have h2:1+(1+(1+(r.2.2.2.1.length+1+(r.2.2.2.2.1.length+1+(1+(1+(1+(1+0))))))))≤1048576:=Nat.le_trans h1 h
 exact⟨by omega,by omega⟩
theorem rows_many:∀ {l:List RowD},9*l.length≤(l.map tRow.bulk).sum
 |[]=>Nat.zero_le _
 |r::l=>by
  have h2:tRow.bulk r=1+(1+(1+(r.2.2.2.1.length+1+(r.2.2.2.2.1.length+1+(1+(1+(1+(1+0)))))))):=rfl
  have:=rows_many (l:=l)
  rw[List.map_cons,List.sum_cons,List.length_cons,h2]
  omega
theorem flat_size:∀ {l:List RowD},(∀r∈l,smallR r)→(∀r∈l,tRow.wf r)→((l.map oneV).flatten).length≤400000602*l.length
 |[],_,_=>by simp
 |r::l,h,hw=>by
  have h1:=one_len (h r (List.mem_cons_self ..)) (hw r (List.mem_cons_self ..)).2.2.2.2.2.1
  have h2:=flat_size (l:=l) (fun x hx=>h x (List.mem_cons_of_mem _ hx)) (fun x hx=>hw x (List.mem_cons_of_mem _ hx))
  rw[List.map_cons,List.flatten_cons,List.length_append,List.length_cons]
  omega
attribute [local irreducible] smallR
noncomputable def lawRowsPrints:Con:=⟨7,[(false,tRows)],[(false,.bool)],fun x=>(tyL [(false,tRows)]).small x∧(tyL [(false,tRows)]).bulk x≤1048576,fun _=>(true,()),false⟩
set_option maxHeartbeats 2000000 in
theorem lawRowsPrints_ok:lawRowsPrints.Ok Tryz.prog:=by
 refine con_q Tryz.func7 rfl (by decide) (fun x hx hp=>run_ok (Cs:=[rowsPrint,refPrint6,rowsCheck,refCheck6,sameRows,awake06]) (stp:=[]) (inl:=[22,27]) (unr:=false) (cons_ok rowsPrint_ok (cons_ok refPrint6_ok (cons_ok rowsCheck_ok (cons_ok refCheck6_ok (cons_ok sameRows_ok (cons_ok awake06_ok nil_ok)))))) 0 _ _ _ _ ?_) (by decide)
 obtain⟨(xs:List RowD),⟨⟩⟩:=x
 have hsz:xs.length*64≤140737488351232:=hp.1.1.1
 have hbu:(xs.map tRow.bulk).sum+0≤1048576:=hp.2
 have hwf:∀v∈xs,tRow.wf v:=hx.1.2
 clear hx hp
 have hsm:=rows_small (l:=xs) (by omega)
 have hmany:=rows_many (l:=xs)
 have hfl:=flat_size hsm hwf
 have hfl2:((xs.map oneV).flatten).length≤140737488355328:=by omega
 have hw:wr .i64 ((xs.length:Int)+1)=((xs.length+1:Nat):Int):=by rw[wr_i64 (by omega) (by omega)];simp
 have e1:decide (printV xs=printV xs)=true:=decide_eq_true rfl
 have e2:decide (chkR none xs=chkR none xs)=true:=decide_eq_true rfl
 have e3:decide (xs=xs)=true:=decide_eq_true rfl
 have ht:List.take xs.length (xs++[((-77,0,0,[],[],0,0,0,false,()):RowD)])=xs:=by simp
 refine run_ok (Cs:=[rowsPrint,refPrint6,rowsCheck,refCheck6,sameRows,awake06]) (stp:=[]) (inl:=[22,27]) (unr:=false) (cons_ok rowsPrint_ok (cons_ok refPrint6_ok (cons_ok rowsCheck_ok (cons_ok refCheck6_ok (cons_ok sameRows_ok (cons_ok awake06_ok nil_ok)))))) 40 _ _ _ _ ?_
 simp(maxSteps:=4000000)only[go_sem,reduceIte,reduceCtorEq,Z0,Z1,Z2,Z3,Z4,Z5,Z6,Z7,Z8,Z9,ZA,ZB,ZC,ZD,Tryz.f7,lawRowsPrints,bITg22,nETg22,Tryz.f22,bITg27,nETg27,Tryz.f27,hw,e1,e2,e3,ht,rowI,eqC,eqC1,rowsPrint,refPrint6,rowsCheck,refCheck6,sameRows,awake06]
 (repeat' first|apply And.intro|intro _)
 all_goals try first|contradiction|omega|exact hsm _ ‹_› |exact hsm|exact hfl2
 have hg:(xs++[((-77,0,0,[],[],0,0,0,false,()):RowD)]).getD xs.length (0,0,0,[],[],0,0,0,false,())=(-77,0,0,[],[],0,0,0,false,()):=by simp[List.getD_eq_getElem?_getD]
 have ht2:List.take (xs.length+1) (xs++[((-77,0,0,[],[],0,0,0,false,()):RowD)])=xs++[((-77,0,0,[],[],0,0,0,false,()):RowD)]:=List.take_of_length_le (by simp)
 refine run_ok (Cs:=[rowsPrint,refPrint6,rowsCheck,refCheck6,sameRows,awake06]) (stp:=[]) (inl:=[22,27]) (unr:=false) (cons_ok rowsPrint_ok (cons_ok refPrint6_ok (cons_ok rowsCheck_ok (cons_ok refCheck6_ok (cons_ok sameRows_ok (cons_ok awake06_ok nil_ok)))))) 100 _ _ _ _ ?_
 simp(maxSteps:=4000000)only[go_sem,reduceIte,reduceCtorEq,Z0,Z1,Z2,Z3,Z4,Z5,Z6,Z7,Z8,Z9,ZA,ZB,ZC,ZD,bITg27,nETg27,Tryz.f27,hw,e1,e2,e3,ht,ht2,hg,rowI,eqC,eqC1,rowsPrint,refPrint6,rowsCheck,refCheck6,sameRows,awake06]
 (repeat' first|apply And.intro|intro _)
 all_goals try first|contradiction|omega|exact hsm _ ‹_› |exact hsm|exact hfl2|rfl|trivial
 all_goals fail
end Go.Proofs.YtcbmonndkjihkaaGreatDoor.Sx
namespace Go.Proofs.YtcbmonndkjihkaaGreatDoor.Sx
set_option linter.unusedSimpArgs false
set_option linter.unusedVariables false
noncomputable section
open Go.ChangeShapes Go.WideShapes Go.ChangeAt Go.RowKit
theorem law_liftedUX{H:Type}{enc:TypeId×Value→H}{C:Checked}{os:Os}{f:FuncId}{fn:Func}{s:ChangeSpec}{conds:List PathCond}{apart fresh handsOn again:Bool}{pl:List (Bool×Ty)}{tb:TypeId}{F:Stop.Interp}
 {laid:List (String×DataW Unit)} (hgw:∀W:World,laidMetH C.prog laid W→W.ShapedOpen C.prog→GW W) (hcon:(lawConU f pl).Ok C.prog)
 (hl:laidOutB C.prog=true) (hvs:s.vars=[]) (hs:∀ds:List (DataW H),ds.length=pl.length→s.fn H ds= {results:=[.lit (.bool true)],args:=ds}) (hp:ParOk C.prog fn.params.toList pl)
 (hr:fn.resultTypes= #[tb]) (htb:C.prog.underlying tb=some .bool)
 (own:ownKnob C.prog.godebug=none) (started:os.Started) (noInit:C.prog.inits.idxOf? f=none) (hfn:C.prog.funcs[f]? =some fn)
 (hsF:((Rows.OpenSpec.upto s).at F)=s)
 (witness:∃(w:World) (tape:Tape) (i:Input),w.os=os∧(w.forCall tape i).Shaped C.prog∧i.vars=[]∧Input.okWide C.prog (w.forCall tape i) .any w.heap.size f i∧
   (Rows.OpenSpec.upto s).preRow enc C.prog fn conds apart laid (w.forCall tape i).memory i.args∧Assume.holds {} C.prog (lone (Frame.enter C.prog f i.args .normal) [] (w.forCall tape i))):
 ReturnsInHanded {} C os f .any ((Rows.OpenSpec.upto s).preRow enc C.prog fn conds apart laid) (((Rows.OpenSpec.upto s).at F).post enc C.prog fn apart fresh handsOn again):=by
 refine returnsInHanded_of_row own started noInit hfn witness ?_
 intro W base args ds gs before hval hW _ hk hsz hL hsh _
 rw[hsF]
 have hW:DataW.Whole enc C.prog fn.params.toList s.vars apart W args.toList ds gs before:=hW
 obtain⟨p,q,hA,hV,hbf,hz,hn⟩:=hW
 have hV':=hV
 rw[hvs]at hV'
 obtain⟨rfl,rfl⟩:=trodVars_none hV'
 obtain⟨x,hx,hxs,hxb⟩:=args_rd (base:=base) pl fn.params.toList args.toList ds p hp hA (fun j t v a b=>hval j t v (by simpa using a) (by simpa using b)) (fun k hk=>by
  have:=List.all_eq_true.1 hsz k
  have hvt:(Rows.OpenSpec.upto s).bare.plain.varTypes C.prog=[]:=by
   simp[DataSpec.varTypes,OpenSpec.bare,ChangeSpec.plain,Rows.OpenSpec.upto,OpenSpec.ofChange,hvs]
  rw[hvt]at this
  simpa using this (by simpa using hk))
 have hwf:=hx.wf
 have hb:Rows.uptoBulkAll (ds++[])≤1048576:=of_decide_eq_true (hk Rows.uptoSmall rfl)
 rw[List.append_nil]at hb
 have:=hcon.calls (fun _=>False) W args.toList x (fun _ h=>h.elim) ⟨hgw W hL hsh,fun _ _ h=>h⟩ hx hwf ⟨hxs,Nat.le_trans hxb hb⟩ 0
 unfold Con.Post at this
 simp only[lawConU]at this
 rw[Array.toArray_toList]at this
 refine this.mono fun e W' hpost=>?_
 obtain⟨v,rfl,hb,_,loc,hv,_⟩:=hpost
 have hv':v= .bool true:=hv
 subst hv'
 exact⟨_,rfl,law_post hl hvs hs hp hr htb ⟨p,[],hA,hV,hbf,hz,hn⟩ hb⟩
end
end Go.Proofs.YtcbmonndkjihkaaGreatDoor.Sx
namespace Go.Proofs.YtcbmonndkjihkaaGreatDoor.Sx
set_option linter.unusedSimpArgs false
set_option linter.unusedVariables false
theorem laidMet_layOver{P:Program}{w0:World}{laid:List (String×DataW Unit)}(args:Array Value)(hf:w0.layFits P laid []=true)(hi:w0.layIfaces P laid (w0.layVars P laid)=true):
 laidMet P laid ((w0.layVars P laid).forCall (fun _ _=>0) ⟨#[],args,[]⟩).memory:=by
 have e1:(laid.filter fun x=>(laid.map (·.1)).contains x.1)=laid:=List.filter_eq_self.2 fun x hx=>List.contains_iff_mem.2 (List.mem_map.2 ⟨x,hx,rfl⟩)
 have e2:(laid.filter fun x=>!(laid.map (·.1)).contains x.1)=[]:=List.filter_eq_nil_iff.2 fun x hx=>by rw[List.contains_iff_mem.2 (List.mem_map.2 ⟨x,hx,rfl⟩)];simp
 have h:laidMet P laid (w0.layVars P laid):=laidMet_layVars (w0:=w0) (laid.map (·.1)) [] (by rw[e1]) (by rw[e1];exact hf) (by rw[e1];exact hi) (by rw[e2];exact LaidIn.none)
 exact h.of_heap (by simp[World.memory,World.forCall,Input.heap])
end Go.Proofs.YtcbmonndkjihkaaGreatDoor.Sx
namespace Go.Proofs.YtcbmonndkjihkaaGreatDoor.Sx
attribute [local irreducible] OkQ Ok
set_option linter.unusedSimpArgs false
set_option linter.unusedVariables false
open Go.RowKit
def laidL:List (String×DataW Unit):=[("math/bits.deBruijn32tab",Rows.laid_math_bits_deBruijn32tab),("math/bits.deBruijn64tab",Rows.laid_math_bits_deBruijn64tab),("internal/strconv.uint64pow10",Rows.laid_internal_strconv_uint64pow10),("unicode/utf8.acceptRanges",Rows.laid_unicode_utf8_acceptRanges),("errors.errorType",Rows.laid_errors_errorType),("strconv.ErrRange",Rows.laid_strconv_ErrRange),("strconv.ErrSyntax",Rows.laid_strconv_ErrSyntax),("unicode/utf8.first",Rows.laid_unicode_utf8_first)]
def laidP:List (String×DataW Unit):=[("math/bits.deBruijn32tab",Rows.laid_math_bits_deBruijn32tab),("math/bits.deBruijn64tab",Rows.laid_math_bits_deBruijn64tab),("internal/strconv.uint64pow10",Rows.laid_internal_strconv_uint64pow10),("unicode/utf8.acceptRanges",Rows.laid_unicode_utf8_acceptRanges),("strconv.ErrRange",Rows.laid_strconv_ErrRange),("strconv.ErrSyntax",Rows.laid_strconv_ErrSyntax),("unicode/utf8.first",Rows.laid_unicode_utf8_first)]
theorem laid_et:Tryz.prog.globalNamed "errors.errorType" =some 0:=by kernel_rfl
theorem laid_rt:(Tryz.prog.cutTypes.find? (·.1== "internal/reflectlite.rtype")).map (·.2)=some 137:=by kernel_rfl
theorem laid_size:∃n,Tryz.prog.types.size=n∧((List.range n).filter fun t=>Tryz.prog.rowNamed t [101,114,114,111,114])=[39]:=⟨_,rfl,by kernel_rfl⟩
theorem laid_GWet{W:World}(h:laidMetH Tryz.prog laidL W):W.cell? ⟨0,0,none⟩=some (.iface 137 (.agg #[.pointer (some ⟨9,39,none⟩)])):=by
 have h':laidMet Tryz.prog laidP W∧handlesMet Tryz.prog [("errors.errorType",Rows.laid_errors_errorType)] W:=h
 obtain⟨name,u,ty,e1,e2,e3,e4,e5⟩:=h'.2 _ (List.mem_singleton.2 rfl)
 have en:name=[101,114,114,111,114]:=(Option.some.inj e1).symm
 subst en
 obtain rfl:=Option.some.inj (laid_rt.symm.trans e2)
 obtain⟨n,hn,hone⟩:=laid_size
 have hm:ty∈(List.range n).filter fun t=>Tryz.prog.rowNamed t [101,114,114,111,114]:=List.mem_filter.2 ⟨List.mem_range.2 (by rw[←hn];exact e3),e4⟩
 rw[hone]at hm
 obtain rfl:=List.mem_singleton.1 hm
 have hh:typeHandle Tryz.prog 39= .pointer (some ⟨9,39,none⟩):=by kernel_rfl
 rw[hh]at e5
 simpa using World.var?_cell laid_et e5 0
theorem laid_plain{W:World}(h:laidMetH Tryz.prog laidL W):laidMet Tryz.prog laidP W:=(show laidMet Tryz.prog laidP W∧handlesMet Tryz.prog [("errors.errorType",Rows.laid_errors_errorType)] W from h).1
theorem laid_pow:(Rows.laid_internal_strconv_uint64pow10:DataW Unit)=Lib.tabData .u64 Lib.pow10Tab:=by rfl
theorem laid_gn:Tryz.prog.globalNamed "internal/strconv.uint64pow10" =some 4:=by kernel_rfl
theorem laid_GWpow{W:World}(h:laidMet Tryz.prog laidP W):∃T fz,W.heap[4]? =some (.cells (Lib.pow10Tab.map fun z=>Value.int .u64 z).toArray T fz):=by
 have h1:laidMet Tryz.prog (("internal/strconv.uint64pow10",Rows.laid_internal_strconv_uint64pow10)::[("unicode/utf8.acceptRanges",Rows.laid_unicode_utf8_acceptRanges),("strconv.ErrRange",Rows.laid_strconv_ErrRange),("strconv.ErrSyntax",Rows.laid_strconv_ErrSyntax),("unicode/utf8.first",Rows.laid_unicode_utf8_first)]) W:=h.tail.tail
 rw[laid_pow]at h1
 have ht:=Lib.tabIs_of_head (g:=4) laid_gn (t:=235) (by kernel_rfl) (n:=20) (e:=212) (by kernel_rfl) (by kernel_rfl) (by kernel_rfl) (by kernel_rfl) h1
 unfold Lib.TabIs World.var? at ht
 rw[laid_gn]at ht
 simp only[Option.bind_some]at ht
 split at ht
 ·rename_i cs T fz hh
  cases ht
  exact⟨T,fz,hh⟩
 ·cases ht
theorem laid_gnsyn:Tryz.prog.globalNamed "strconv.ErrSyntax" =some 1:=by kernel_rfl
theorem laid_GWsyn{W:World}(h:laidMet Tryz.prog laidP W):∃t u,W.cell? ⟨1,0,none⟩=some (.iface t u):=by
 have h1:laidMet Tryz.prog (("strconv.ErrSyntax",Rows.laid_strconv_ErrSyntax)::[("unicode/utf8.first",Rows.laid_unicode_utf8_first)]) W:=h.tail.tail.tail.tail.tail
 obtain⟨ps,⟨g0,t0,cs0,f0,p0,q0,hg0,ht0,hv0,hd0,_,e0⟩,_,hrows⟩:=h1
 obtain rfl:=Option.some.inj (laid_gnsyn.symm.trans hg0)
 obtain rfl:=Option.some.inj ((show(Tryz.prog.globals[1]?).map (·.type)=some 39 by kernel_rfl).symm.trans ht0)
 obtain⟨l0⟩:=cs0
 obtain⟨_,t,u,rfl,_⟩:=iface_of_trod Tryz.underlying39 hd0
 exact⟨t,u,by simpa using World.var?_cell laid_gnsyn hv0 0⟩
theorem laid_gnrng:Tryz.prog.globalNamed "strconv.ErrRange" =some 2:=by kernel_rfl
theorem laid_GWrng{W:World}(h:laidMet Tryz.prog laidP W):∃t u,W.cell? ⟨2,0,none⟩=some (.iface t u):=by
 have h1:laidMet Tryz.prog (("strconv.ErrRange",Rows.laid_strconv_ErrRange)::[("strconv.ErrSyntax",Rows.laid_strconv_ErrSyntax),("unicode/utf8.first",Rows.laid_unicode_utf8_first)]) W:=h.tail.tail.tail.tail
 obtain⟨ps,⟨g0,t0,cs0,f0,p0,q0,hg0,ht0,hv0,hd0,_,e0⟩,_,hrows⟩:=h1
 obtain rfl:=Option.some.inj (laid_gnrng.symm.trans hg0)
 obtain rfl:=Option.some.inj ((show(Tryz.prog.globals[2]?).map (·.type)=some 39 by kernel_rfl).symm.trans ht0)
 obtain⟨l0⟩:=cs0
 obtain⟨_,t,u,rfl,_⟩:=iface_of_trod Tryz.underlying39 hd0
 exact⟨t,u,by simpa using World.var?_cell laid_gnrng hv0 0⟩
theorem laid_GWmx{W:World}(h:W.ShapedOpen Tryz.prog):∃m,W.cell? ⟨3,0,none⟩=some (.int .i64 m):=
 Go.Proofs.cell_of_shapedOpen_int (t:=3) (zero:= #[.int .i64 0]) h (by decide+kernel) (by kernel_rfl) rfl (by kernel_rfl) (by kernel_rfl) (by kernel_rfl)
theorem laid_GW{W:World}(h0:laidMetH Tryz.prog laidL W)(hs:W.ShapedOpen Tryz.prog):GW W:=
 have hp:=laid_plain h0
 {et:=laid_GWet h0,
  pow:=laid_GWpow hp,
  syn:=laid_GWsyn hp,
  rng:=laid_GWrng hp,
  mx:=laid_GWmx hs}
noncomputable def laidW0(os:Os):World:=
 let w0:=World.holding Tryz.prog os ⟨#[],#[],[]⟩
 {w0 with heap:=w0.heap.modify 0 fun
   | .cells _ t frozen=> .cells #[.iface 137 (.agg #[.pointer (some ⟨9,39,none⟩)])] t frozen
   |o=>o}
noncomputable def laidWorld(os:Os):World:=(laidW0 os).layVars Tryz.prog laidP
theorem laidWorld_os(os:Os):(laidWorld os).os=os:=World.layVars_os _ _ _
set_option maxRecDepth 100000 in
theorem laidWorld_met(os:Os)(args:Array Value):laidMetH Tryz.prog laidL ((laidWorld os).forCall (fun _ _=>0) ⟨#[],args,[]⟩).memory:=
 laidMetH_of_parts (show laidMet Tryz.prog laidP _ from laidMet_layOver args (by kernel_rfl) (by kernel_rfl)) (by kernel_rfl)
end Go.Proofs.YtcbmonndkjihkaaGreatDoor.Sx
namespace Go.Proofs.YtcbmonndkjihkaaGreatDoor.RowsPrints
set_option linter.unusedSimpArgs false
set_option linter.unusedVariables false
open Go.ChangeShapes Go.WideShapes Go.ChangeAt Go.RowKit Go.Proofs.YtcbmonndkjihkaaGreatDoor.Sx
theorem own:ownKnob Tryz.prog.godebug=none:=by kernel_rfl
theorem laidOut:laidOutB Tryz.prog=true:=by kernel_rfl
theorem reads(os:Os){H:Type}(enc:TypeId×Value→H):∃places,DataW.whole enc Tryz.prog ((laidWorld os).forCall (fun _ _=>0) ⟨#[],#[.slice none 0 0],[]⟩).memory Tryz.f7.params.toList Rows.rowsPrintsSpec.vars false #[.slice none 0 0].toList 8=some ([.nil],[],places):=
 ⟨[],by kernel_rfl⟩
set_option maxRecDepth 100000 in
theorem lifted(os:Os)(started:os.Started)(H:Type)(enc:TypeId×Value→H)(F:Stop.Interp):
 ReturnsInHanded {} Tryz.checked os 7 .any ((Rows.OpenSpec.upto Rows.rowsPrintsSpec).preRow enc Tryz.prog Tryz.f7 Rows.rowsPrintsUptoRow.domain false Rows.rowsPrintsUptoRow.laid) (((Rows.OpenSpec.upto Rows.rowsPrintsSpec).at F).post enc Tryz.prog Tryz.f7 false true false false):=by
 obtain⟨places,hx⟩:=reads os enc
 exact law_liftedUX (C:=Tryz.checked) (pl:=[(false,tRows)]) (tb:=4) (laid:=Rows.rowsPrintsUptoRow.laid) (fun _ h hs=>laid_GW h hs) lawRowsPrints_ok laidOut rfl (fun ds h=>match ds,h with|[_],_=>rfl)
  ⟨⟨by kernel_rfl,by kernel_rfl,by kernel_rfl,by kernel_rfl,by kernel_rfl⟩,trivial⟩ (by kernel_rfl) (by kernel_rfl) own started (by kernel_rfl) Tryz.func7 rfl
  (witness_row_at (enc:=enc) (C:=Tryz.checked) false (laidWorld os) #[.slice none 0 0] (laidWorld_os os) (by kernel_rfl) (by kernel_rfl) (by kernel_rfl)
    (OpenSpec.preRow_of_cond 8 hx (by kernel_rfl) (fun k hk=>by cases hk;kernel_rfl) (by kernel_rfl) (laidWorld_met os _)))
theorem rowHolds:Rows.RowsPrintsUptoSaid:=
 OpenClaim.holds_of_cond 7 Tryz.f7 rfl rfl rfl rfl rfl rfl rfl ⟨rfl,rfl,rfl,rfl,rfl⟩ rfl rfl rfl rfl rfl (by kernel_rfl) Tryz.func7 (by kernel_rfl)
  (of_decide_eq_true (by kernel_rfl)) (by unfold Func.isWrapper;first|(rw[if_pos (by decide+kernel)];kernel_rfl)|(rw[if_neg (by decide+kernel)];exact⟨rfl,rfl⟩))
  (fun os started H enc _ F=>by rw[OpenClaim.pre_eq_preRow];exact lifted os started H enc F)
theorem proved:Rows.RowsPrintsUptoCardSaid:=
 Claim7.holds_tied_plain_at .later [] [.data,.data,.data,.data,.handle,.sentinel,.sentinel,.pinned] true (true,Rows.rowsPrintsUptoCard.stood.harness.2) true
  rowHolds (fun _ h=>by cases h) (by kernel_rfl) (fun _ h=>by cases h) rowsPrintsUpto_row_tie rfl ⟨rfl,rfl⟩ (by kernel_rfl) rfl
  (fun f fn hf hfn=>by
    obtain rfl:f=7:=Option.some.inj ((show Tryz.prog.funcNamed "furrow/furrowlaw06.RowsPrints" =some 7 by kernel_rfl).symm.trans hf) |>.symm
    obtain rfl:fn=Tryz.f7:=(Option.some.inj (Tryz.func7.symm.trans hfn)).symm
    exact⟨by kernel_rfl,fun j t ht=>by
     have key:∀t∈Tryz.f7.params.toList,Tryz.prog.wantsStandIn t=false:=by decide+kernel
     exact key t (List.mem_of_getElem? (by simpa using ht))⟩)
  (by kernel_rfl)
#print axioms proved
end Go.Proofs.YtcbmonndkjihkaaGreatDoor.RowsPrints
