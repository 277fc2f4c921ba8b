/- 'furrowlaw06.RowsScans': the law returns true, and the input reads as it did. Where what comes holds at most 1048576 values and letters, and the listed package-level variables hold what the program's text lays (the card ties them). -/
import Derived.Test.YtcbmonndkjihkaaGreatDoorT4
import Derived.Test.YtcbmonndkjihkaaGreatDoorT3
import Derived.Lib.TrimUEq
import Derived.Deep.DeepHandedRow
import Derived.LaidHandle
import Derived.LaidLaws
import Derived.Lay
import Derived.Test.YtcbmonndkjihkaaGreatDoorRows
import Derived.Lib.LaidTab
import Derived.Stop.LaidErr
import Derived.Shelf.Vars
import Derived.Test.YtcbmonndkjihkaaGreatDoorTie
import Derived.Test.YtcbmonndkjihkaaGreatDoorCards
import Derived.Test.YtcbmonndkjihkaaGreatDoorT0
import Derived.Test.YtcbmonndkjihkaaGreatDoorT1
import Derived.Test.YtcbmonndkjihkaaGreatDoorT2
namespace Go.Proofs.YtcbmonndkjihkaaGreatDoor.Sx
attribute [local irreducible] OkQ Ok
set_option linter.unusedSimpArgs false
set_option linter.unusedVariables false
open Nat renaming reduceEqDiff→Z0,reduceBEq→Z1,reduceAdd→Z2,reduceSub→Z3,reduceMul→Z4,reduceLeDiff→Z5
open Int renaming reduceEq→Z6,reduceLE→Z7,reduceLT→Z8,reduceNeg→Z9,reduceToNat→ZA,reduceAdd→ZB,reduceSub→ZC,reduceMul→ZD
set_option maxRecDepth 8000
def refBlank:Con:=⟨84,[(false,.int .i32)],[(false,.bool)],fun _=>True,fun x=>(blankB x.1,()),false⟩
set_option maxHeartbeats 1000000 in
theorem refBlank_ok:refBlank.Ok Tryz.prog:=by
 refine con_q Tryz.func84 rfl (by decide) (fun x hx hp=>go0 nil_ok 400 ?_) (by decide)
 obtain⟨(r:Int),⟨⟩⟩:=x
 clear hx hp
 simp(maxSteps:=4000000)only[go_sem,reduceIte,reduceCtorEq,Z0,Z1,Z2,Z3,Z4,Z5,Z6,Z7,Z8,Z9,ZA,ZB,ZC,ZD,Tryz.f84,refBlank]
 (repeat' first|apply And.intro|intro _)
 all_goals first
  |exact(decide_eq_true (by omega)).symm
  |exact(decide_eq_false (by omega)).symm
  |(unfold blankB;rw[Bool.eq_iff_iff];simp;omega)
  |fail
def dlo(L:List Int):List Int:=(L.filter fun r=>!skipB r).map lowV
theorem dlo_next(L:List Int)(r:Int):dlo (L++[r])=if skipB r=true then dlo L else dlo L++[lowV r]:=by
 unfold dlo
 cases h:skipB r<;>simp[List.filter_append,h]
theorem dlo_len(L:List Int):(dlo L).length≤L.length:=by
 unfold dlo
 rw[List.length_map]
 exact List.length_filter_le _ _
def dLoose(s:List UInt8):List UInt8:=dEnc (dlo (dRunes s))
theorem dRunes_len(s:List UInt8):(dRunes s).length≤s.length:=by
 have:=spots_len s s.length 0
 unfold dRunes spotsV
 rw[List.length_map]
 omega
def refLoose:Con:=⟨60,[(false,.str)],[(false,.str)],fun x=>(x.1:List UInt8).length≤1000000000000,fun x=>(dLoose x.1,()),false⟩
set_option maxHeartbeats 2000000 in
theorem refLoose_ok:refLoose.Ok Tryz.prog:=by
 refine con_q Tryz.func60 rfl (by decide) (fun x hx hp=>go0 (cons_ok refRunes_ok (cons_ok refBlank_ok (cons_ok refEnc_ok nil_ok))) 400 ?_) (by decide)
 obtain⟨(s:List UInt8),⟨⟩⟩:=x
 have hz:s.length≤1000000000000:=hp
 clear hx hp
 have hL:=dRunes_len s
 have hD:dLoose s=dEnc (dlo (dRunes s)):=rfl
 simp(maxSteps:=4000000)only[go_sem,reduceIte,reduceCtorEq,Z0,Z1,Z2,Z3,Z4,Z5,Z6,Z7,Z8,Z9,ZA,ZB,ZC,ZD,Tryz.f60,refLoose,refRunes,refBlank,refEnc]
 generalize dRunes s=L at*
 (repeat' first|apply And.intro|intro _)
 all_goals try omega
 refine OkQ.virt 4 (.int .i32) ?_
 refine OkQ.loop (α:=Nat) [0,1,2,4,5,6,7,8,9,10,11,12,13,14,15,16,17,18,19,20,21,22,23,24,25,26,27,28,29,30,31,32,33,34,35,36,37,38,39,40,41,42] (fun i=>[(4,.s (.sub 1 0 (dlo (L.take i)).length)),(5,.s (.int .i64 (i:Int)))]) (fun i=>[(1,.arr false 4 (.int .i32) (dlo (L.take i)))]) (fun i=>i≤L.length) (fun i=>L.length - i) 0 (Nat.zero_le _) ?_ fun i hi=>?_
 ·simp(maxSteps:=4000000)only[go_sem,reduceIte,reduceCtorEq,Z0,Z1,Z2,Z3,Z4,Z5,Z6,Z7,Z8,Z9,ZA,ZB,ZC,ZD,refRunes,refBlank,refEnc]
  all_goals first|rfl|exact⟨rfl,rfl⟩|exact⟨⟨rfl,rfl⟩,rfl⟩|exact⟨⟨⟨rfl,rfl⟩,rfl⟩,rfl⟩|fail
 have hll:=dlo_len (L.take i)
 rw[List.length_take]at hll
 rcases Nat.lt_or_ge i L.length with hlt|hge
 ·have dl:decide ((i:Int)<(L.length:Int))=true:=decide_eq_true (by omega)
  have hw:wr .i64 ((i:Int)+1)=((i+1:Nat):Int):=wr_succ (by omega)
  obtain⟨r,hr⟩:∃r,r=L.getD i 0:=⟨_,rfl⟩
  have hn:L.take (i+1)=L.take i++[r]:=by
   rw[List.take_succ_eq_append_getElem hlt,hr]
   simp[List.getD_eq_getElem?_getD,hlt]
  have hd:=dlo_next (L.take i) r
  rw[←hn]at hd
  refine go0 (cons_ok refRunes_ok (cons_ok refBlank_ok (cons_ok refEnc_ok nil_ok))) 400 ?_
  simp(maxSteps:=4000000)only[go_sem,reduceIte,reduceCtorEq,Z0,Z1,Z2,Z3,Z4,Z5,Z6,Z7,Z8,Z9,ZA,ZB,ZC,ZD,dl,hw,←hr,refRunes,refBlank,refEnc]
  (repeat' first|apply And.intro|intro _)
  all_goals try omega
  ·have e:dlo (L.take (i+1))=dlo (L.take i):=by rw[hd,if_pos (by simp[skipB];simp_all [or_assoc])]
   exact⟨i+1,by omega,by omega,by rw[e];exact⟨⟨rfl,rfl⟩,rfl⟩⟩
  ·have e:dlo (L.take (i+1))=dlo (L.take i)++[wr .i32 (r+32)]:=by rw[hd,if_neg (by simp[skipB];simp_all),lowV,if_pos ‹_›]
   exact⟨i+1,by omega,by omega,by rw[e];exact⟨⟨by simp,rfl⟩,rfl⟩⟩
  ·have e:dlo (L.take (i+1))=dlo (L.take i)++[r]:=by rw[hd,if_neg (by simp[skipB];simp_all),lowV,if_neg (by omega)]
   exact⟨i+1,by omega,by omega,by rw[e];exact⟨⟨by simp,rfl⟩,rfl⟩⟩
  all_goals fail
 ·have e:i=L.length:=by omega
  subst e
  have dl:decide ((L.length:Int)<(L.length:Int))=false:=decide_eq_false (by omega)
  rw[List.take_length]at hll ⊢
  have ht:List.take (dlo L).length (dlo L)=dlo L:=List.take_length
  refine go0 (cons_ok refRunes_ok (cons_ok refBlank_ok (cons_ok refEnc_ok nil_ok))) 400 ?_
  simp(maxSteps:=4000000)only[go_sem,reduceIte,reduceCtorEq,Z0,Z1,Z2,Z3,Z4,Z5,Z6,Z7,Z8,Z9,ZA,ZB,ZC,ZD,dl,ht,hD,refRunes,refBlank,refEnc]
  (repeat' first|apply And.intro|intro _)
  all_goals first|contradiction|omega|rfl|fail
def dShort(c:Int):List UInt8:=(([]:List UInt8)::nmTab.map fun x=>x.1).getD c.toNat []
def dLong(c:Int):List UInt8:=(([]:List UInt8)::nmTab.map fun x=>x.2).getD c.toNat []
def refShort:Con:=⟨33,[(false,.int .u8)],[(false,.str)],fun _=>True,fun x=>(dShort x.1,()),false⟩
def refLongN:Con:=⟨61,[(false,.int .u8)],[(false,.str)],fun _=>True,fun x=>(dLong x.1,()),false⟩
theorem dShort_past{c:Int}(h:24≤c):dShort c=[]:=by
 unfold dShort
 rw[List.getD_eq_getElem?_getD,List.getElem?_eq_none (by have:(([]:List UInt8)::nmTab.map fun x=>x.1).length=24:=rfl;omega)]
 rfl
theorem dLong_past{c:Int}(h:24≤c):dLong c=[]:=by
 unfold dLong
 rw[List.getD_eq_getElem?_getD,List.getElem?_eq_none (by have:(([]:List UInt8)::nmTab.map fun x=>x.2).length=24:=rfl;omega)]
 rfl
set_option maxHeartbeats 1000000 in
theorem refShort_ok:refShort.Ok Tryz.prog:=by
 refine con_q Tryz.func33 rfl (by decide) (fun x hx hp=>go0 nil_ok 400 ?_) (by decide)
 obtain⟨(c:Int),⟨⟩⟩:=x
 obtain⟨d,hd,hcd⟩:=u8_of hx.1
 have hc:0≤c∧c≤255:=by
  have:=d.toNat_lt
  omega
 have hw:wr .i64 c=c:=wr_i64 (by omega) (by omega)
 clear hx hp
 simp(maxSteps:=4000000)only[go_sem,reduceIte,reduceCtorEq,Z0,Z1,Z2,Z3,Z4,Z5,Z6,Z7,Z8,Z9,ZA,ZB,ZC,ZD,Tryz.f33,refShort,hw]
 (repeat' first|apply And.intro|intro _)
 all_goals first|contradiction|omega|(exact(dShort_past (by omega)).symm)|rfl|fail
set_option maxHeartbeats 1000000 in
theorem refLongN_ok:refLongN.Ok Tryz.prog:=by
 refine con_q Tryz.func61 rfl (by decide) (fun x hx hp=>go0 nil_ok 400 ?_) (by decide)
 obtain⟨(c:Int),⟨⟩⟩:=x
 obtain⟨d,hd,hcd⟩:=u8_of hx.1
 have hc:0≤c∧c≤255:=by
  have:=d.toNat_lt
  omega
 have hw:wr .i64 c=c:=wr_i64 (by omega) (by omega)
 clear hx hp
 simp(maxSteps:=4000000)only[go_sem,reduceIte,reduceCtorEq,Z0,Z1,Z2,Z3,Z4,Z5,Z6,Z7,Z8,Z9,ZA,ZB,ZC,ZD,Tryz.f61,refLongN,hw]
 (repeat' first|apply And.intro|intro _)
 all_goals first|contradiction|omega|(exact(dLong_past (by omega)).symm)|rfl|fail
def isD(s:List UInt8)(c:Int):Bool:=decide (dLoose s=dLoose (dShort c))||decide (dLoose s=dLoose (dLong c))
def dclsFrom(s:List UInt8):Nat→Nat→Int
 |0,_=>0
 |f+1,c=>if isD s (c:Int)=true then(c:Int)else dclsFrom s f (c+1)
def dclsV(s:List UInt8):Int:=dclsFrom s 23 1
theorem dShort_len(c:Int):(dShort c).length≤100:=by
 by_cases h:24≤c
 ·rw[dShort_past h];simp
 ·have key:∀k,k<24→((([]:List UInt8)::nmTab.map fun x=>x.1).getD k []).length≤100:=by decide+kernel
  exact key c.toNat (by omega)
theorem dLong_len(c:Int):(dLong c).length≤100:=by
 by_cases h:24≤c
 ·rw[dLong_past h];simp
 ·have key:∀k,k<24→((([]:List UInt8)::nmTab.map fun x=>x.2).getD k []).length≤100:=by decide+kernel
  exact key c.toNat (by omega)
def refClass:Con:=⟨32,[(false,.str)],[(false,.int .u8)],fun x=>(x.1:List UInt8).length≤1000000000000,fun x=>(dclsV x.1,()),false⟩
set_option maxHeartbeats 1000000 in
theorem refClass_ok:refClass.Ok Tryz.prog:=by
 refine con_q Tryz.func32 rfl (by decide) (fun x hx hp=>go0 (cons_ok refLoose_ok (cons_ok refShort_ok (cons_ok refLongN_ok nil_ok))) 400 ?_) (by decide)
 obtain⟨(s:List UInt8),⟨⟩⟩:=x
 have hz:s.length≤1000000000000:=hp
 clear hx hp
 simp(maxSteps:=4000000)only[go_sem,reduceIte,reduceCtorEq,Z0,Z1,Z2,Z3,Z4,Z5,Z6,Z7,Z8,Z9,ZA,ZB,ZC,ZD,Tryz.f32,refClass,refLoose,refShort,refLongN]
 (repeat' first|apply And.intro|intro _)
 all_goals try omega
 refine OkQ.loop (α:=Nat) [0,1,2,4,5,6,7,8,9,10,11,12,13,14,15,16,17,18,19,20,21,22,23,24,25,26] (fun c=>[(4,.s (.int .i64 (c:Int)))]) (fun c=>[]) (fun c=>1≤c∧c≤24∧dclsV s=dclsFrom s (24 - c) c) (fun c=>24 - c) 1 ⟨by omega,by omega,rfl⟩ ?_ fun c hc=>?_
 ·simp(maxSteps:=4000000)only[go_sem,reduceIte,reduceCtorEq,Z0,Z1,Z2,Z3,Z4,Z5,Z6,Z7,Z8,Z9,ZA,ZB,ZC,ZD,refLoose,refShort,refLongN]
  all_goals first|rfl|fail
 obtain⟨h1,h2,h3⟩:=hc
 have ha:=dShort_len (c:Int)
 have hb:=dLong_len (c:Int)
 have hw:wr .i64 ((c:Int)+1)=((c+1:Nat):Int):=wr_succ (by omega)
 have hw8:wr .u8 (c:Int)=(c:Int):=wr_u8 (by omega) (by omega)
 have hyes:c≤23→isD s (c:Int)=true→dclsV s=(c:Int):=fun hc hi=>by rw[h3,show 24 - c=(23 - c)+1 by omega,dclsFrom,if_pos hi]
 have hno:c≤23→isD s (c:Int)=false→dclsV s=dclsFrom s (24 - (c+1)) (c+1):=fun hc hi=>by
  rw[h3,show 24 - c=(23 - c)+1 by omega,dclsFrom,if_neg (by rw[hi];simp)]
  congr 1
  omega
 refine go0 (cons_ok refLoose_ok (cons_ok refShort_ok (cons_ok refLongN_ok nil_ok))) 400 ?_
 simp(maxSteps:=4000000)only[go_sem,reduceIte,reduceCtorEq,Z0,Z1,Z2,Z3,Z4,Z5,Z6,Z7,Z8,Z9,ZA,ZB,ZC,ZD,hw,hw8,refLoose,refShort,refLongN]
 (repeat' first|apply And.intro|intro _)
 all_goals first
  |omega
  |contradiction
  |(have e:=hyes (by omega) (by simp only[isD,Bool.or_eq_true,decide_eq_true_eq];assumption);exact e.symm)
  |exact⟨c+1,⟨by omega,by omega,hno (by omega) (by simp only[isD,Bool.or_eq_false_iff,decide_eq_false_iff_not];assumption)⟩,by omega,rfl⟩
  |(have e:c=24:=by omega
    subst e
    exact h3.symm)
  |fail
theorem dcls_short:∀k:Nat,k<24→1≤k→dclsV (dShort (k:Int))=(k:Int)∧clsOf (dShort (k:Int))=(k:Int)∧(nmV (k:Int)).1=dShort (k:Int):=by decide+kernel
theorem cls_from(s:List UInt8):∀f c,clsFrom s f c=0∨∃k:Nat,clsFrom s f c=(k:Int)∧c≤k∧k<c+f
 |0,_=> .inl rfl
 |f+1,c=>by
  rw[clsFrom]
  split
  ·exact .inr ⟨c,rfl,Nat.le_refl _,by omega⟩
  ·rcases cls_from s f (c+1)with h|⟨k,h,h1,h2⟩
   ·exact .inl h
   ·exact .inr ⟨k,h,by omega,by omega⟩
theorem dcls_from(s:List UInt8):∀f c,dclsFrom s f c=0∨∃k:Nat,dclsFrom s f c=(k:Int)∧c≤k∧k<c+f
 |0,_=> .inl rfl
 |f+1,c=>by
  rw[dclsFrom]
  split
  ·exact .inr ⟨c,rfl,Nat.le_refl _,by omega⟩
  ·rcases dcls_from s f (c+1)with h|⟨k,h,h1,h2⟩
   ·exact .inl h
   ·exact .inr ⟨k,h,by omega,by omega⟩
theorem dcls_in(s:List UInt8):0≤dclsV s∧dclsV s≤23:=by
 rcases dcls_from s 23 1 with h|⟨k,h,h1,h2⟩
 ·unfold dclsV;rw[h];omega
 ·unfold dclsV;rw[h];omega
theorem dcls_yes{s:List UInt8}(h:clsOf s≠0):dclsV s=clsOf s∧1≤clsOf s∧clsOf s≤23∧dShort (clsOf s)=s:=by
 have h':=h
 unfold clsOf at h'
 split at h'
 ·rename_i hh
  have e:clsOf s=clsV s:=by unfold clsOf;rw[if_pos hh]
  rcases cls_from s 23 1 with h0|⟨k,hk,h1,h2⟩
  ·exact(h' h0).elim
  ·have hk:clsV s=(k:Int):=hk
   obtain⟨a,b,c⟩:=dcls_short k (by omega) h1
   have hs:s=dShort (k:Int):=by rw[←c,←hk];exact hh.2.symm
   rw[e,hk]
   refine⟨?_,by omega,by omega,hs.symm⟩
   rw[hs]
   exact a
 ·exact(h' rfl).elim
theorem dcls_no{s:List UInt8}(h:clsOf s=0):¬(1≤dclsV s∧dShort (dclsV s)=s):=by
 rintro⟨h1,h2⟩
 have hin:=(dcls_in s).2
 obtain⟨k,hk⟩:=Int.eq_ofNat_of_zero_le (show 0≤dclsV s by omega)
 rw[hk]at h1 h2 hin
 obtain⟨a,b,c⟩:=dcls_short k (by omega) (by omega)
 rw[h2,h]at b
 omega
end Go.Proofs.YtcbmonndkjihkaaGreatDoor.Sx
namespace Go.Proofs.YtcbmonndkjihkaaGreatDoor.Sx
attribute [local irreducible] OkQ Ok
set_option linter.unusedSimpArgs false
set_option linter.unusedVariables false
theorem dec_N(s:List UInt8)(p:Nat):decV s p=Lib.decodeN (s.length - p) (s.getD p 0).toNat (s.getD (p+1) 0).toNat (s.getD (p+2) 0).toNat (s.getD (p+3) 0).toNat:=by
 unfold decV
 rw[Lib.decode_N]
theorem dec_fits{s:List UInt8}{p:Nat}(h:p<s.length):p+(decV s p).2≤s.length:=by
 rw[dec_N]
 unfold Lib.decodeN
 repeat' split
 all_goals simp only
 all_goals omega
abbrev ChD:=Int×Int×Int×Bool×Unit
def widAt(s:List UInt8)(k:Nat):Nat:=(decV s (walkP s k)).2
def isAt(s:List UInt8)(k:Nat):Bool:=!decide (chrAt s k=65533)||decide ((widAt s k:Int)=3)
def chOf(s:List UInt8)(k:Nat):ChD:=((walkP s k:Int),(widAt s k:Int),chrAt s k,isAt s k,())
theorem cnt_at(s:List UInt8):∀f k,s.length - walkP s k<f→walkP s k≤s.length→k≤cntFrom s f k∧walkP s (cntFrom s f k)=s.length∧∀i,k≤i→i<cntFrom s f k→walkP s i<s.length
 |0,k,h,_=>by omega
 |f+1,k,h,hk=>by
  rw[cntFrom]
  by_cases hp:walkP s k<s.length
  ·rw[if_pos hp]
   have h1:=dec_fits hp
   have h2:=decW s (walkP s k)
   have hw:walkP s (k+1)=walkP s k+(decV s (walkP s k)).2:=rfl
   obtain⟨a,b,c⟩:=cnt_at s f (k+1) (by omega) (by omega)
   refine⟨by omega,b,fun i hi hlt=>?_⟩
   rcases Nat.lt_or_ge k i with h'|h'
   ·exact c i (by omega) hlt
   ·rwa [show i=k by omega]
  ·rw[if_neg hp]
   exact⟨Nat.le_refl _,by omega,fun i h1 h2=>by omega⟩
theorem cnt_end'(s:List UInt8):walkP s (cntV s)=s.length:=(cnt_at s _ 0 (by rw[walkP];omega) (Nat.zero_le _)).2.1
theorem cnt_in{s:List UInt8}{k:Nat}(h:k<cntV s):walkP s k<s.length:=(cnt_at s (s.length+1) 0 (by rw[walkP];omega) (Nat.zero_le _)).2.2 k (Nat.zero_le _) h
theorem cntV_le(s:List UInt8):cntV s≤s.length:=by
 have:=walkP_le s (cntV s)
 rw[cnt_end']at this
 exact this
theorem cnt_out{s:List UInt8}{k:Nat}(h:walkP s k<s.length):k<cntV s:=by
 rcases Nat.lt_or_ge k (cntV s)with h'|h'
 ·exact h'
 ·have mono:∀i,walkP s (cntV s)≤walkP s (cntV s+i):=by
   intro i
   induction i with
   |zero=>exact Nat.le_refl _
   |succ i ih=>rw[←Nat.add_assoc,walkP];omega
  have:=mono (k - cntV s)
  rw[cnt_end',show cntV s+(k - cntV s)=k by omega]at this
  omega
def charsV(s:List UInt8):List ChD:=(List.range (cntV s)).map (chOf s)
end Go.Proofs.YtcbmonndkjihkaaGreatDoor.Sx
namespace Go.Proofs.YtcbmonndkjihkaaGreatDoor.Sx
attribute [local irreducible] OkQ Ok
set_option linter.unusedSimpArgs false
set_option linter.unusedVariables false
open Nat renaming reduceEqDiff→Z0,reduceBEq→Z1,reduceAdd→Z2,reduceSub→Z3,reduceMul→Z4,reduceLeDiff→Z5
open Int renaming reduceEq→Z6,reduceLE→Z7,reduceLT→Z8,reduceNeg→Z9,reduceToNat→ZA,reduceAdd→ZB,reduceSub→ZC,reduceMul→ZD
set_option maxRecDepth 8000
abbrev tCh:Ty:= .pair (.int .i64) (.pair (.int .i64) (.pair (.int .i32) (.pair .bool .unit)))
def ch0(s:List UInt8)(j:Nat):ChD:=((walkP s j:Int),0,chrAt s j,false,())
def chars1(s:List UInt8)(n i:Nat):List ChD:=(List.range n).map fun j=>if j<i then chOf s j else ch0 s j
theorem chars1_len(s:List UInt8)(n i:Nat):(chars1 s n i).length=n:=by simp[chars1]
theorem chars1_at{s:List UInt8}{n i j:Nat}(h:j<n)(d:ChD):(chars1 s n i).getD j d=if j<i then chOf s j else ch0 s j:=by
 simp[chars1,List.getD_eq_getElem?_getD,h]
theorem chars1_set{s:List UInt8}{n i:Nat}(h:i<n):(chars1 s n i).set i (chOf s i)=chars1 s n (i+1):=by
 apply List.ext_getElem
 ·simp[chars1]
 ·intro j h1 h2
  simp only[chars1,List.getElem_set,List.getElem_map,List.getElem_range]
  by_cases e:i=j
  ·subst e;simp
  ·rw[if_neg e]
   by_cases hj:j<i
   ·rw[if_pos hj,if_pos (by omega)]
   ·rw[if_neg hj,if_neg (by omega)]
theorem chars1_zero(s:List UInt8)(n:Nat):chars1 s n 0=(List.range n).map (ch0 s):=by simp[chars1]
theorem chars1_all(s:List UInt8):chars1 s (cntV s) (cntV s)=charsV s:=by
 unfold chars1 charsV
 apply List.map_congr_left
 intro j hj
 rw[if_pos (List.mem_range.1 hj)]
theorem range_next{α:Type}(f:Nat→α)(k:Nat):(List.range (k+1)).map f=(List.range k).map f++[f k]:=by
 rw[List.range_succ,List.map_append];rfl
def refChars:Con:=⟨30,[(false,.str)],[(false,.slice 24 tCh)],fun x=>(x.1:List UInt8).length≤1000000000000,fun x=>(charsV x.1,()),false⟩
set_option maxHeartbeats 4000000 in
theorem refChars_ok:refChars.Ok Tryz.prog:=by
 refine con_q Tryz.func30 rfl (by decide) (fun x hx hp=>go0 nil_ok 400 ?_) (by decide)
 obtain⟨(s:List UInt8),⟨⟩⟩:=x
 have hz:s.length≤1000000000000:=hp
 clear hx hp
 have hcl:=cntV_le s
 simp(maxSteps:=4000000)only[go_sem,reduceIte,reduceCtorEq,Z0,Z1,Z2,Z3,Z4,Z5,Z6,Z7,Z8,Z9,ZA,ZB,ZC,ZD,Tryz.f30,refChars]
 (repeat' first|apply And.intro|intro _)
 refine OkQ.virt 24 tCh ?_
 refine OkQ.loop (α:=Nat) [1,2,3,4,5,6,7,8,10,11,12,13,14,15,16,17,18,19,20,21,22,23,24,25,26,27,28,29,30,31,32,33,34,35,36,37,38,39,40,41,42,43,44,45,46,47,48,49,50,51,52,53,54,55,56,57,58,59,60,61,62,63,64,65,66,67,68] (fun k=>[(3,.s (.sub 1 0 ((List.range k).map (ch0 s)).length))]) (fun k=>[(0,.it s (walkP s k)),(1,.arr false 24 tCh ((List.range k).map (ch0 s)))]) (fun k=>k≤cntV s) (fun k=>s.length - walkP s k) 0 (Nat.zero_le _) ?_ fun k hk=>?_
 ·simp(maxSteps:=4000000)only[go_sem,reduceIte,reduceCtorEq,Z0,Z1,Z2,Z3,Z4,Z5,Z6,Z7,Z8,Z9,ZA,ZB,ZC,ZD]
  all_goals first|rfl|exact⟨rfl,rfl⟩|exact⟨⟨rfl,rfl⟩,rfl,rfl⟩|fail
 have hw:=walkP_le s k
 have hd:=decW s (walkP s k)
 have hcr:((decV s (walkP s k)).1:Int)=chrAt s k:=rfl
 have hrl:((List.range k).map (ch0 s)).length=k:=by simp
 rcases Nat.lt_or_ge (walkP s k) s.length with hlt|hge
 ·have dl:decide (walkP s k<s.length)=true:=decide_eq_true hlt
  have hkc:=cnt_out hlt
  refine go0 nil_ok 400 ?_
  simp(maxSteps:=4000000)only[go_sem,reduceIte,reduceCtorEq,Z0,Z1,Z2,Z3,Z4,Z5,Z6,Z7,Z8,Z9,ZA,ZB,ZC,ZD,hcr,dl]
  (repeat' first|apply And.intro|intro _)
  all_goals try first|contradiction|omega
  refine⟨k+1,by omega,by rw[walkP];omega,?_⟩
  rw[range_next]
  simp(maxSteps:=4000000)only[go_sem,reduceIte,reduceCtorEq,Z0,Z1,Z2,Z3,Z4,Z5,Z6,Z7,Z8,Z9,ZA,ZB,ZC,ZD]
  all_goals first|rfl|exact⟨rfl,rfl⟩|exact⟨⟨rfl,rfl⟩,rfl,rfl⟩|fail
 ·have dl:decide (walkP s k<s.length)=false:=decide_eq_false (by omega)
  have hkn:k=cntV s:=by
   rcases Nat.lt_or_ge k (cntV s)with h|h
   ·have:=cnt_in h;omega
   ·omega
  subst hkn
  rw[←chars1_zero]
  refine go0 nil_ok 400 ?_
  simp(maxSteps:=4000000)only[go_sem,reduceIte,reduceCtorEq,Z0,Z1,Z2,Z3,Z4,Z5,Z6,Z7,Z8,Z9,ZA,ZB,ZC,ZD,dl]
  (repeat' first|apply And.intro|intro _)
  refine OkQ.loop (α:=Nat) [1,2,4,5,6,7,8,9,10,11,12,13,14,15,16,17,18,19,20,21,22,23,24,25,26,27,28,29,30,31,32,33,34,35,36,37,38,39,40,41,42,43,44,45,46,47,48,49,50,51,52,53,54,55,56,57,58,59,60,61,62,63,64,65,66,67,68] (fun i=>[(6,.s (.int .i64 (i:Int)))]) (fun i=>[(1,.arr false 24 tCh (chars1 s (cntV s) i))]) (fun i=>i≤cntV s) (fun i=>cntV s - i) 0 (Nat.zero_le _) ?_ fun i hi=>?_
  ·simp(maxSteps:=4000000)only[go_sem,reduceIte,reduceCtorEq,Z0,Z1,Z2,Z3,Z4,Z5,Z6,Z7,Z8,Z9,ZA,ZB,ZC,ZD]
   all_goals first|rfl|exact⟨rfl,rfl⟩|exact⟨⟨rfl,rfl⟩,rfl,rfl⟩|fail
  obtain⟨n,hn⟩:∃n,n=cntV s:=⟨_,rfl⟩
  have hlen:=chars1_len s n i
  have hlen0:=chars1_len s n 0
  rcases Nat.lt_or_ge i n with hlt|hge2
  ·rw[←hn]at hi hcl ⊢
   have dl:decide ((i:Int)<(n:Int))=true:=decide_eq_true (by omega)
   have g1:(chars1 s n i).getD i (0,0,0,false,())=((walkP s i:Int),0,chrAt s i,false,()):=by rw[chars1_at hlt,if_neg (by omega)];rfl
   have hs1:∀y,((chars1 s n i).set i y).getD i (0,0,0,false,())=y:=fun y=>by simp[List.getD_eq_getElem?_getD,hlen,hlt]
   have hs2:∀y y',((chars1 s n i).set i y).set i y'=(chars1 s n i).set i y':=fun y y'=>by simp
   have hwi:wr .i64 ((i:Int)+1)=((i+1:Nat):Int):=wr_succ (by omega)
   have hwn:walkP s (i+1)=walkP s i+widAt s i:=rfl
   have hfit:=dec_fits (cnt_in (by omega:i<cntV s))
   have hww:wr .i64 ((walkP s (i+1):Int) - (walkP s i:Int))=(widAt s i:Int):=by rw[wr_i64 (by unfold widAt at hwn;omega) (by unfold widAt at hwn;omega)];omega
   have hIs:(!decide (chrAt s i=65533)||decide ((widAt s i:Int)=3))=isAt s i:=rfl
   have hset:=chars1_set (s:=s) hlt
   by_cases hl:i+1<n
   ·have d2:decide (((i+1:Nat):Int)<(n:Int))=true:=decide_eq_true (by omega)
    have g2:(chars1 s n i).getD (i+1) (0,0,0,false,())=((walkP s (i+1):Int),0,chrAt s (i+1),false,()):=by rw[chars1_at hl,if_neg (by omega)];rfl
    refine go0 nil_ok 400 ?_
    simp(maxSteps:=4000000)only[go_sem,reduceIte,reduceCtorEq,Z0,Z1,Z2,Z3,Z4,Z5,Z6,Z7,Z8,Z9,ZA,ZB,ZC,ZD,hlen,hlen0,dl,d2,g1,g2,hs1,hs2,hwi,hww,hIs]
    (repeat' first|apply And.intro|intro _)
    all_goals try first|contradiction|omega
    exact⟨i+1,by omega,by omega,rfl,hset⟩
   ·have d2:decide (((i+1:Nat):Int)<(n:Int))=false:=decide_eq_false (by omega)
    have hwl:(s.length:Int)=(walkP s (i+1):Int):=by rw[show i+1=cntV s by omega,cnt_end']
    refine go0 nil_ok 400 ?_
    simp(maxSteps:=4000000)only[go_sem,reduceIte,reduceCtorEq,Z0,Z1,Z2,Z3,Z4,Z5,Z6,Z7,Z8,Z9,ZA,ZB,ZC,ZD,hlen,hlen0,dl,d2,g1,hs1,hs2,hwi,hwl,hww,hIs]
    (repeat' first|apply And.intro|intro _)
    all_goals try first|contradiction|omega
    exact⟨i+1,by omega,by omega,rfl,hset⟩
  ·have e:i=cntV s:=by omega
   subst e
   have dl:decide ((cntV s:Int)<(cntV s:Int))=false:=decide_eq_false (by omega)
   have hl2:=chars1_len s (cntV s) 0
   have hl3:=chars1_len s (cntV s) (cntV s)
   rw[chars1_all]at hl3
   have ht:List.take (cntV s) (charsV s)=charsV s:=List.take_of_length_le (by omega)
   rw[chars1_all]
   refine go0 nil_ok 400 ?_
   simp(maxSteps:=4000000)only[go_sem,reduceIte,reduceCtorEq,Z0,Z1,Z2,Z3,Z4,Z5,Z6,Z7,Z8,Z9,ZA,ZB,ZC,ZD,hl2,dl,ht]
   (repeat' first|apply And.intro|intro _)
   all_goals try first|contradiction|omega
end Go.Proofs.YtcbmonndkjihkaaGreatDoor.Sx
namespace Go.Proofs.YtcbmonndkjihkaaGreatDoor.Sx
attribute [local irreducible] OkQ Ok
set_option linter.unusedSimpArgs false
set_option linter.unusedVariables false
open Nat renaming reduceEqDiff→Z0,reduceBEq→Z1,reduceAdd→Z2,reduceSub→Z3,reduceMul→Z4,reduceLeDiff→Z5
open Int renaming reduceEq→Z6,reduceLE→Z7,reduceLT→Z8,reduceNeg→Z9,reduceToNat→ZA,reduceAdd→ZB,reduceSub→ZC,reduceMul→ZD
set_option maxRecDepth 8000
end Go.Proofs.YtcbmonndkjihkaaGreatDoor.Sx
namespace Go.Proofs.YtcbmonndkjihkaaGreatDoor.Sx
attribute [local irreducible] OkQ Ok
set_option linter.unusedSimpArgs false
set_option linter.unusedVariables false
open Nat renaming reduceEqDiff→Z0,reduceBEq→Z1,reduceAdd→Z2,reduceSub→Z3,reduceMul→Z4,reduceLeDiff→Z5
open Int renaming reduceEq→Z6,reduceLE→Z7,reduceLT→Z8,reduceNeg→Z9,reduceToNat→ZA,reduceAdd→ZB,reduceSub→ZC,reduceMul→ZD
set_option maxRecDepth 8000
end Go.Proofs.YtcbmonndkjihkaaGreatDoor.Sx
namespace Go.Proofs.YtcbmonndkjihkaaGreatDoor.Sx
attribute [local irreducible] OkQ Ok
set_option linter.unusedSimpArgs false
set_option linter.unusedVariables false
open Nat renaming reduceEqDiff→Z0,reduceBEq→Z1,reduceAdd→Z2,reduceSub→Z3,reduceMul→Z4,reduceLeDiff→Z5
open Int renaming reduceEq→Z6,reduceLE→Z7,reduceLT→Z8,reduceNeg→Z9,reduceToNat→ZA,reduceAdd→ZB,reduceSub→ZC,reduceMul→ZD
set_option maxRecDepth 8000
theorem chars_len(s:List UInt8):(charsV s).length=cntV s:=by simp[charsV]
end Go.Proofs.YtcbmonndkjihkaaGreatDoor.Sx
namespace Go.Proofs.YtcbmonndkjihkaaGreatDoor.Sx
attribute [local irreducible] OkQ Ok
set_option linter.unusedSimpArgs false
set_option linter.unusedVariables false
theorem kPg0:∀c∈[refHex,refChars,refNum,refClass,refShort,refMade],c.Ok Tryz.prog:=(cons_ok refHex_ok (cons_ok refChars_ok (cons_ok refNum_ok (cons_ok refClass_ok (cons_ok refShort_ok (cons_ok refMade_ok nil_ok))))))
open Nat renaming reduceEqDiff→Z0,reduceBEq→Z1,reduceAdd→Z2,reduceSub→Z3,reduceMul→Z4,reduceLeDiff→Z5
open Int renaming reduceEq→Z6,reduceLE→Z7,reduceLT→Z8,reduceNeg→Z9,reduceToNat→ZA,reduceAdd→ZB,reduceSub→ZC,reduceMul→ZD
set_option maxRecDepth 8000
def refScan6:Con:=⟨12,[(true,tLine)],[(true,tRow),(false,.int .i64)],fun x=>∀k,(fld x.1 k).length≤1000000000,fun x=>(rowV x.1,rowE x.1,()),false⟩
set_option maxHeartbeats 40000000 in
theorem refScan6_ok:refScan6.Ok Tryz.prog:=by
 refine con_q Tryz.func12 rfl (by decide) (fun x hx hp=>go0 kPg0 0 ?_) (by decide)
 obtain⟨l,⟨⟩⟩:=x
 have hf:∀k,(fld l k).length≤1000000000:=hp
 clear hx hp
 have f0:(List.getD l.2.2.2.1 0 []).length≤1000000000:=hf 0
 have f1:(List.getD l.2.2.2.1 1 []).length≤1000000000:=hf 1
 have f2:(List.getD l.2.2.2.1 2 []).length≤1000000000:=hf 2
 have f3:(List.getD l.2.2.2.1 3 []).length≤1000000000:=hf 3
 have f4:(List.getD l.2.2.2.1 4 []).length≤1000000000:=hf 4
 have f5:(List.getD l.2.2.2.1 5 []).length≤1000000000:=hf 5
 by_cases h2:l.2.1=2
 ·have d2:decide (l.2.1=2)=true:=decide_eq_true h2
  have e:rowE l=33:=by rw[rowE,if_pos h2]
  have v:rowV l=rowZ:=by rw[rowV,e];rfl
  refine go0 kPg0 300 ?_
  simp(maxSteps:=4000000)only[go_sem,reduceIte,reduceCtorEq,Z0,Z1,Z2,Z3,Z4,Z5,Z6,Z7,Z8,Z9,ZA,ZB,ZC,ZD,Tryz.f12,refScan6,d2,e,v,rowZ,refHex,refChars,refNum,refClass,refShort,refMade]
  (repeat' first|apply And.intro|intro _|(show staB _ _=true;kernel_rfl)|(show dynB _ _=true;kernel_rfl)|(show dynP _ _ _=true;kernel_rfl))
  all_goals first|contradiction|omega|rfl|exact hf|fail
 have d2:decide (l.2.1=2)=false:=decide_eq_false h2
 by_cases h1:l.2.1=1
 case neg=>
  have d1:decide (l.2.1=1)=false:=decide_eq_false h1
  have e:rowE l=60:=by rw[rowE,if_neg h2,if_pos (.inl h1)]
  have v:rowV l=rowZ:=by rw[rowV,e];rfl
  refine go0 kPg0 300 ?_
  simp(maxSteps:=4000000)only[go_sem,reduceIte,reduceCtorEq,Z0,Z1,Z2,Z3,Z4,Z5,Z6,Z7,Z8,Z9,ZA,ZB,ZC,ZD,Tryz.f12,refScan6,d2,d1,e,v,rowZ,refHex,refChars,refNum,refClass,refShort,refMade]
  (repeat' first|apply And.intro|intro _|(show staB _ _=true;kernel_rfl)|(show dynB _ _=true;kernel_rfl)|(show dynP _ _ _=true;kernel_rfl))
  all_goals first|contradiction|omega|rfl|exact hf|fail
 have d1:decide (l.2.1=1)=true:=decide_eq_true h1
 by_cases h0:l.2.2.2.1.length=15
 case neg=>
  have d0:decide ((l.2.2.2.1.length:Int)=15)=false:=decide_eq_false (by omega)
  have e:rowE l=60:=by rw[rowE,if_neg h2,if_pos (.inr h0)]
  have v:rowV l=rowZ:=by rw[rowV,e];rfl
  refine go0 kPg0 300 ?_
  simp(maxSteps:=4000000)only[go_sem,reduceIte,reduceCtorEq,Z0,Z1,Z2,Z3,Z4,Z5,Z6,Z7,Z8,Z9,ZA,ZB,ZC,ZD,Tryz.f12,refScan6,d2,d1,d0,e,v,rowZ,refHex,refChars,refNum,refClass,refShort,refMade]
  (repeat' first|apply And.intro|intro _|(show staB _ _=true;kernel_rfl)|(show dynB _ _=true;kernel_rfl)|(show dynP _ _ _=true;kernel_rfl))
  all_goals first|contradiction|omega|rfl|exact hf|fail
 have d0:decide ((l.2.2.2.1.length:Int)=15)=true:=decide_eq_true (by omega)
 have hB:¬(l.2.1≠1∨l.2.2.2.1.length≠15):=fun h=>h.elim (fun h=>h h1) (fun h=>h h0)
 by_cases c0:hexE (fld l 0)=0
 case neg=>
  have d3:decide (hexE (List.getD l.2.2.2.1 0 [])=0)=false:=decide_eq_false c0
  have e:rowE l=40:=by rw[rowE,if_neg h2,if_neg hB,if_pos c0]
  have v:rowV l=rowZ:=by rw[rowV,if_neg (by rw[e];decide)]
  refine go0 kPg0 300 ?_
  simp(maxSteps:=4000000)only[go_sem,reduceIte,reduceCtorEq,Z0,Z1,Z2,Z3,Z4,Z5,Z6,Z7,Z8,Z9,ZA,ZB,ZC,ZD,Tryz.f12,refScan6,d2,d1,d0,d3,e,v,rowZ,refHex,refChars,refNum,refClass,refShort,refMade]
  (repeat' first|apply And.intro|intro _|(show staB _ _=true;kernel_rfl)|(show dynB _ _=true;kernel_rfl)|(show dynP _ _ _=true;kernel_rfl))
  all_goals first|contradiction|omega|rfl|exact hf|fail
 have d3:decide (hexE (List.getD l.2.2.2.1 0 [])=0)=true:=decide_eq_true c0
 by_cases c1:cntV (fld l 1)<1∨256<cntV (fld l 1)
 case pos=>
  have e:rowE l=61:=by rw[rowE,if_neg h2,if_neg hB,if_neg (by rw[c0];simp),if_pos c1]
  have v:rowV l=rowZ:=by rw[rowV,if_neg (by rw[e];decide)]
  by_cases c1a:cntV (fld l 1)<1
  ·have d4:decide ((cntV (List.getD l.2.2.2.1 1 []):Int)<1)=true:=decide_eq_true (by have:cntV (List.getD l.2.2.2.1 1 [])<1:=c1a;omega)
   refine go0 kPg0 300 ?_
   simp(maxSteps:=4000000)only[go_sem,reduceIte,reduceCtorEq,Z0,Z1,Z2,Z3,Z4,Z5,Z6,Z7,Z8,Z9,ZA,ZB,ZC,ZD,Tryz.f12,refScan6,d2,d1,d0,d3,chars_len,d4,e,v,rowZ,refHex,refChars,refNum,refClass,refShort,refMade]
   (repeat' first|apply And.intro|intro _|(show staB _ _=true;kernel_rfl)|(show dynB _ _=true;kernel_rfl)|(show dynP _ _ _=true;kernel_rfl))
   all_goals first|contradiction|omega|rfl|exact hf|fail
  ·have d4:decide ((cntV (List.getD l.2.2.2.1 1 []):Int)<1)=false:=decide_eq_false (by have:¬cntV (List.getD l.2.2.2.1 1 [])<1:=c1a;omega)
   have d5:decide (256<(cntV (List.getD l.2.2.2.1 1 []):Int))=true:=decide_eq_true (by have:256<cntV (List.getD l.2.2.2.1 1 []):=c1.resolve_left c1a;omega)
   refine go0 kPg0 300 ?_
   simp(maxSteps:=4000000)only[go_sem,reduceIte,reduceCtorEq,Z0,Z1,Z2,Z3,Z4,Z5,Z6,Z7,Z8,Z9,ZA,ZB,ZC,ZD,Tryz.f12,refScan6,d2,d1,d0,d3,chars_len,d4,d5,e,v,rowZ,refHex,refChars,refNum,refClass,refShort,refMade]
   (repeat' first|apply And.intro|intro _|(show staB _ _=true;kernel_rfl)|(show dynB _ _=true;kernel_rfl)|(show dynP _ _ _=true;kernel_rfl))
   all_goals first|contradiction|omega|rfl|exact hf|fail
 have d4:decide ((cntV (List.getD l.2.2.2.1 1 []):Int)<1)=false:=decide_eq_false (by have:¬cntV (List.getD l.2.2.2.1 1 [])<1:=fun h=>c1 (.inl h);omega)
 have d5:decide (256<(cntV (List.getD l.2.2.2.1 1 []):Int))=false:=decide_eq_false (by have:¬256<cntV (List.getD l.2.2.2.1 1 []):=fun h=>c1 (.inr h);omega)
 refine run_ok (Cs:=[refHex,refChars,refNum,refClass,refShort,refMade]) (stp:=[12]) (inl:=[]) (unr:=false) (cons_ok refHex_ok (cons_ok refChars_ok (cons_ok refNum_ok (cons_ok refClass_ok (cons_ok refShort_ok (cons_ok refMade_ok nil_ok)))))) 400 _ _ _ _ ?_
 simp(maxSteps:=4000000)only[go_sem,reduceIte,reduceCtorEq,Z0,Z1,Z2,Z3,Z4,Z5,Z6,Z7,Z8,Z9,ZA,ZB,ZC,ZD,Tryz.f12,refScan6,d2,d1,d0,d3,chars_len,d4,d5,refHex,refChars,refNum,refClass,refShort,refMade]
 (repeat' first|apply And.intro|intro _|(show staB _ _=true;kernel_rfl)|(show dynB _ _=true;kernel_rfl)|(show dynP _ _ _=true;kernel_rfl))
 all_goals try first|contradiction|omega|exact hf
 by_cases c2:catOk (fld l 2)=true
 case neg=>
  have c2b:catOk (fld l 2)=false:=by simpa using c2
  have e:rowE l=63:=by rw[rowE,if_neg h2,if_neg hB,if_neg (by rw[c0];simp),if_neg c1,if_pos c2b]
  have v:rowV l=rowZ:=by rw[rowV,if_neg (by rw[e];decide)]
  have c2':¬((List.getD l.2.2.2.1 2 []).length=2∧65≤((List.getD l.2.2.2.1 2 []).getD 0 0).toNat∧((List.getD l.2.2.2.1 2 []).getD 0 0).toNat≤90∧97≤((List.getD l.2.2.2.1 2 []).getD 1 0).toNat∧((List.getD l.2.2.2.1 2 []).getD 1 0).toNat≤122):=fun h=>c2 ((cat_iff _).2 h)
  have n2:(List.getD l.2.2.2.1 2 []).length=2→1<(List.getD l.2.2.2.1 2 []).length:=fun h=>by omega
  refine run_ok (Cs:=[refHex,refChars,refNum,refClass,refShort,refMade]) (stp:=[14]) (inl:=[]) (unr:=false) (cons_ok refHex_ok (cons_ok refChars_ok (cons_ok refNum_ok (cons_ok refClass_ok (cons_ok refShort_ok (cons_ok refMade_ok nil_ok)))))) 60 _ _ _ _ ?_
  simp(maxSteps:=4000000)only[go_sem,reduceIte,reduceCtorEq,Z0,Z1,Z2,Z3,Z4,Z5,Z6,Z7,Z8,Z9,ZA,ZB,ZC,ZD,refScan6,e,v,rowZ,refHex,refChars,refNum,refClass,refShort,refMade]
  (repeat' first|apply And.intro|intro _|(show staB _ _=true;kernel_rfl)|(show dynB _ _=true;kernel_rfl)|(show dynP _ _ _=true;kernel_rfl))
  all_goals first|contradiction|omega|rfl|exact hf|fail
 obtain⟨k0,k1,k2,k3,k4⟩:((List.getD l.2.2.2.1 2 []).length=2∧65≤((List.getD l.2.2.2.1 2 []).getD 0 0).toNat∧((List.getD l.2.2.2.1 2 []).getD 0 0).toNat≤90∧97≤((List.getD l.2.2.2.1 2 []).getD 1 0).toNat∧((List.getD l.2.2.2.1 2 []).getD 1 0).toNat≤122):=(cat_iff _).1 c2
 have c2n:¬catOk (fld l 2)=false:=by rw[c2];simp
 have e0:decide (((List.getD l.2.2.2.1 2 []).length:Int)=2)=true:=decide_eq_true (by omega)
 have e1:decide ((((List.getD l.2.2.2.1 2 []).getD 0 0).toNat:Int)<65)=false:=decide_eq_false (by omega)
 have e2:decide ((90:Int)<(((List.getD l.2.2.2.1 2 []).getD 0 0).toNat:Int))=false:=decide_eq_false (by omega)
 have e3:decide ((((List.getD l.2.2.2.1 2 []).getD 1 0).toNat:Int)<97)=false:=decide_eq_false (by omega)
 have e4:decide ((122:Int)<(((List.getD l.2.2.2.1 2 []).getD 1 0).toNat:Int))=false:=decide_eq_false (by omega)
 by_cases c3:combV (fld l 3)<0
 case pos=>
  have d6:decide (combV (List.getD l.2.2.2.1 3 [])<0)=true:=decide_eq_true c3
  have e:rowE l=64:=by rw[rowE,if_neg h2,if_neg hB,if_neg (by rw[c0];simp),if_neg c1,if_neg c2n,if_pos c3]
  have v:rowV l=rowZ:=by rw[rowV,if_neg (by rw[e];decide)]
  refine go0 kPg0 150 ?_
  simp(maxSteps:=4000000)only[go_sem,reduceIte,reduceCtorEq,Z0,Z1,Z2,Z3,Z4,Z5,Z6,Z7,Z8,Z9,ZA,ZB,ZC,ZD,refScan6,e0,e1,e2,e3,e4,d6,e,v,rowZ,refHex,refChars,refNum,refClass,refShort,refMade]
  (repeat' first|apply And.intro|intro _|(show staB _ _=true;kernel_rfl)|(show dynB _ _=true;kernel_rfl)|(show dynP _ _ _=true;kernel_rfl))
  all_goals first|contradiction|omega|rfl|exact hf|fail
 have d6:decide (combV (List.getD l.2.2.2.1 3 [])<0)=false:=decide_eq_false c3
 refine run_ok (Cs:=[refHex,refChars,refNum,refClass,refShort,refMade]) (stp:=[18]) (inl:=[]) (unr:=false) (cons_ok refHex_ok (cons_ok refChars_ok (cons_ok refNum_ok (cons_ok refClass_ok (cons_ok refShort_ok (cons_ok refMade_ok nil_ok)))))) 400 _ _ _ _ ?_
 simp(maxSteps:=4000000)only[go_sem,reduceIte,reduceCtorEq,Z0,Z1,Z2,Z3,Z4,Z5,Z6,Z7,Z8,Z9,ZA,ZB,ZC,ZD,e0,e1,e2,e3,e4,d6,refHex,refChars,refNum,refClass,refShort,refMade]
 (repeat' first|apply And.intro|intro _|(show staB _ _=true;kernel_rfl)|(show dynB _ _=true;kernel_rfl)|(show dynP _ _ _=true;kernel_rfl))
 all_goals try first|contradiction|omega
 have c3':0≤combV (List.getD l.2.2.2.1 3 []):=by have h:¬combV (List.getD l.2.2.2.1 3 [])<0:=c3;omega
 have c3'':=(comb_back c3').1
 have w8:wr .u8 (combV (List.getD l.2.2.2.1 3 []))=combV (List.getD l.2.2.2.1 3 []):=wr_u8 (by omega) (by omega)
 have hin:=dcls_in (List.getD l.2.2.2.1 4 [])
 have d8:decide (23<dclsV (List.getD l.2.2.2.1 4 []))=false:=decide_eq_false (by omega)
 by_cases c4:clsOf (fld l 4)=0
 case pos=>
  have e:rowE l=50:=by rw[rowE,if_neg h2,if_neg hB,if_neg (by rw[c0];simp),if_neg c1,if_neg c2n,if_neg c3,if_pos c4]
  have v:rowV l=rowZ:=by rw[rowV,if_neg (by rw[e];decide)]
  have hno:=dcls_no (s:=List.getD l.2.2.2.1 4 []) c4
  by_cases c4a:dclsV (List.getD l.2.2.2.1 4 [])<1
  ·have d7:decide (dclsV (List.getD l.2.2.2.1 4 [])<1)=true:=decide_eq_true c4a
   refine go0 kPg0 150 ?_
   simp(maxSteps:=4000000)only[go_sem,reduceIte,reduceCtorEq,Z0,Z1,Z2,Z3,Z4,Z5,Z6,Z7,Z8,Z9,ZA,ZB,ZC,ZD,refScan6,d7,e,v,rowZ,refHex,refChars,refNum,refClass,refShort,refMade]
   (repeat' first|apply And.intro|intro _|(show staB _ _=true;kernel_rfl)|(show dynB _ _=true;kernel_rfl)|(show dynP _ _ _=true;kernel_rfl))
   all_goals first|contradiction|omega|rfl|exact hf|fail
  ·have d7:decide (dclsV (List.getD l.2.2.2.1 4 [])<1)=false:=decide_eq_false c4a
   have d9:decide (dShort (dclsV (List.getD l.2.2.2.1 4 []))=List.getD l.2.2.2.1 4 [])=false:=decide_eq_false fun h=>hno ⟨by omega,h⟩
   refine go0 kPg0 150 ?_
   simp(maxSteps:=4000000)only[go_sem,reduceIte,reduceCtorEq,Z0,Z1,Z2,Z3,Z4,Z5,Z6,Z7,Z8,Z9,ZA,ZB,ZC,ZD,refScan6,d7,d8,d9,e,v,rowZ,refHex,refChars,refNum,refClass,refShort,refMade]
   (repeat' first|apply And.intro|intro _|(show staB _ _=true;kernel_rfl)|(show dynB _ _=true;kernel_rfl)|(show dynP _ _ _=true;kernel_rfl))
   all_goals first|contradiction|omega|rfl|exact hf|fail
 obtain⟨y1,y2,y3,y4⟩:=dcls_yes (s:=List.getD l.2.2.2.1 4 []) c4
 rw[←y1]at y2 y3 y4
 have d7:decide (dclsV (List.getD l.2.2.2.1 4 [])<1)=false:=decide_eq_false (by omega)
 have d9:decide (dShort (dclsV (List.getD l.2.2.2.1 4 []))=List.getD l.2.2.2.1 4 [])=true:=decide_eq_true y4
 refine run_ok (Cs:=[refHex,refChars,refNum,refClass,refShort,refMade]) (stp:=[20]) (inl:=[]) (unr:=false) (cons_ok refHex_ok (cons_ok refChars_ok (cons_ok refNum_ok (cons_ok refClass_ok (cons_ok refShort_ok (cons_ok refMade_ok nil_ok)))))) 400 _ _ _ _ ?_
 simp(maxSteps:=4000000)only[go_sem,reduceIte,reduceCtorEq,Z0,Z1,Z2,Z3,Z4,Z5,Z6,Z7,Z8,Z9,ZA,ZB,ZC,ZD,d7,d8,d9,refHex,refChars,refNum,refClass,refShort,refMade]
 (repeat' first|apply And.intro|intro _|(show staB _ _=true;kernel_rfl)|(show dynB _ _=true;kernel_rfl)|(show dynP _ _ _=true;kernel_rfl))
 all_goals try first|contradiction|omega
 cases c5:madeOk (List.getD l.2.2.2.1 5 [])
 case false=>
  have c5f:madeOk (fld l 5)=false:=c5
  have e:rowE l=65:=by rw[rowE,if_neg h2,if_neg hB,if_neg (by rw[c0];simp),if_neg c1,if_neg c2n,if_neg c3,if_neg c4,if_pos c5f]
  have v:rowV l=rowZ:=by rw[rowV,if_neg (by rw[e];decide)]
  refine go0 kPg0 150 ?_
  simp(maxSteps:=4000000)only[go_sem,reduceIte,reduceCtorEq,Z0,Z1,Z2,Z3,Z4,Z5,Z6,Z7,Z8,Z9,ZA,ZB,ZC,ZD,refScan6,c5,e,v,rowZ,refHex,refChars,refNum,refClass,refShort,refMade]
  (repeat' first|apply And.intro|intro _|(show staB _ _=true;kernel_rfl)|(show dynB _ _=true;kernel_rfl)|(show dynP _ _ _=true;kernel_rfl))
  all_goals first|contradiction|omega|rfl|exact hf|fail
 have c5n:¬madeOk (fld l 5)=false:=by rw[show madeOk (fld l 5)=true from c5];simp
 refine run_ok (Cs:=[refHex,refChars,refNum,refClass,refShort,refMade]) (stp:=[23]) (inl:=[]) (unr:=false) (cons_ok refHex_ok (cons_ok refChars_ok (cons_ok refNum_ok (cons_ok refClass_ok (cons_ok refShort_ok (cons_ok refMade_ok nil_ok)))))) 400 _ _ _ _ ?_
 simp(maxSteps:=4000000)only[go_sem,reduceIte,reduceCtorEq,Z0,Z1,Z2,Z3,Z4,Z5,Z6,Z7,Z8,Z9,ZA,ZB,ZC,ZD,c5,if_true,refHex,refChars,refNum,refClass,refShort,refMade]
 (repeat' first|apply And.intro|intro _|(show staB _ _=true;kernel_rfl)|(show dynB _ _=true;kernel_rfl)|(show dynP _ _ _=true;kernel_rfl))
 all_goals try first|contradiction|omega
 by_cases c6:List.getD l.2.2.2.1 9 []=[89]
 ·have d10:decide (List.getD l.2.2.2.1 9 []=[89])=true:=decide_eq_true c6
  have e:rowE l=0:=by rw[rowE,if_neg h2,if_neg hB,if_neg (by rw[c0];simp),if_neg c1,if_neg c2n,if_neg c3,if_neg c4,if_neg c5n,if_neg (fun h=>h.1 c6)]
  have v:rowV l=(l.1,hexV (List.getD l.2.2.2.1 0 []),hexV (List.getD l.2.2.2.1 0 []),List.getD l.2.2.2.1 1 [],List.getD l.2.2.2.1 2 [],combV (List.getD l.2.2.2.1 3 []),dclsV (List.getD l.2.2.2.1 4 []),madeV (List.getD l.2.2.2.1 5 []),decide (List.getD l.2.2.2.1 9 []=[89]),()):=by
   rw[rowV,if_pos e]
   unfold rowR
   rw[y1]
   rfl
  refine go0 kPg0 150 ?_
  simp(maxSteps:=4000000)only[go_sem,reduceIte,reduceCtorEq,Z0,Z1,Z2,Z3,Z4,Z5,Z6,Z7,Z8,Z9,ZA,ZB,ZC,ZD,refScan6,w8,d10,e,v,if_true,refHex,refChars,refNum,refClass,refShort,refMade]
  (repeat' first|apply And.intro|intro _|(show staB _ _=true;kernel_rfl)|(show dynB _ _=true;kernel_rfl)|(show dynP _ _ _=true;kernel_rfl))
  all_goals first|contradiction|omega|rfl|exact hf|exact d10.symm|fail
 have d10:decide (List.getD l.2.2.2.1 9 []=[89])=false:=decide_eq_false c6
 by_cases c7:List.getD l.2.2.2.1 9 []=[78]
 ·have d11:decide (List.getD l.2.2.2.1 9 []=[78])=true:=decide_eq_true c7
  have e:rowE l=0:=by rw[rowE,if_neg h2,if_neg hB,if_neg (by rw[c0];simp),if_neg c1,if_neg c2n,if_neg c3,if_neg c4,if_neg c5n,if_neg (fun h=>h.2 c7)]
  have v:rowV l=(l.1,hexV (List.getD l.2.2.2.1 0 []),hexV (List.getD l.2.2.2.1 0 []),List.getD l.2.2.2.1 1 [],List.getD l.2.2.2.1 2 [],combV (List.getD l.2.2.2.1 3 []),dclsV (List.getD l.2.2.2.1 4 []),madeV (List.getD l.2.2.2.1 5 []),decide (List.getD l.2.2.2.1 9 []=[89]),()):=by
   rw[rowV,if_pos e]
   unfold rowR
   rw[y1]
   rfl
  refine go0 kPg0 150 ?_
  simp(maxSteps:=4000000)only[go_sem,reduceIte,reduceCtorEq,Z0,Z1,Z2,Z3,Z4,Z5,Z6,Z7,Z8,Z9,ZA,ZB,ZC,ZD,refScan6,w8,d10,d11,e,v,if_true,refHex,refChars,refNum,refClass,refShort,refMade]
  (repeat' first|apply And.intro|intro _|(show staB _ _=true;kernel_rfl)|(show dynB _ _=true;kernel_rfl)|(show dynP _ _ _=true;kernel_rfl))
  all_goals first|contradiction|omega|rfl|exact hf|exact d10.symm|fail
 have d11:decide (List.getD l.2.2.2.1 9 []=[78])=false:=decide_eq_false c7
 have e:rowE l=66:=by rw[rowE,if_neg h2,if_neg hB,if_neg (by rw[c0];simp),if_neg c1,if_neg c2n,if_neg c3,if_neg c4,if_neg c5n,if_pos ⟨c6,c7⟩]
 have v:rowV l=rowZ:=by rw[rowV,if_neg (by rw[e];decide)]
 refine go0 kPg0 150 ?_
 simp(maxSteps:=4000000)only[go_sem,reduceIte,reduceCtorEq,Z0,Z1,Z2,Z3,Z4,Z5,Z6,Z7,Z8,Z9,ZA,ZB,ZC,ZD,refScan6,w8,d10,d11,e,v,rowZ,refHex,refChars,refNum,refClass,refShort,refMade]
 (repeat' first|apply And.intro|intro _|(show staB _ _=true;kernel_rfl)|(show dynB _ _=true;kernel_rfl)|(show dynP _ _ _=true;kernel_rfl))
 all_goals first|contradiction|omega|rfl|exact hf|fail
end Go.Proofs.YtcbmonndkjihkaaGreatDoor.Sx
namespace Go.Proofs.YtcbmonndkjihkaaGreatDoor.Sx
attribute [local irreducible] OkQ Ok
set_option linter.unusedSimpArgs false
set_option linter.unusedVariables false
theorem kPj0:∀c∈[rowsScan,refScan6,awake06],c.Ok Tryz.prog:=(cons_ok rowsScan_ok (cons_ok refScan6_ok (cons_ok awake06_ok nil_ok)))
theorem bIPj10:bodyI Tryz.prog 10=bodyF Tryz.f10:=by kernel_rfl
theorem nEPj10:isEsc Tryz.prog 10=false:=by kernel_rfl
open Nat renaming reduceEqDiff→Z0,reduceBEq→Z1,reduceAdd→Z2,reduceSub→Z3,reduceMul→Z4,reduceLeDiff→Z5
open Int renaming reduceEq→Z6,reduceLE→Z7,reduceLT→Z8,reduceNeg→Z9,reduceToNat→ZA,reduceAdd→ZB,reduceSub→ZC,reduceMul→ZD
set_option maxRecDepth 8000
abbrev markS:List UInt8:=[109,97,114,107]
theorem sum_get(l:List (List UInt8))(k:Nat):(l.getD k []).length≤(l.map fun x=>x.length+1).sum:=by
 induction l generalizing k with
 |nil=>simp
 |cons a l ih=>
  cases k with
  |zero=>simp;omega
  |succ k=>
   have:=ih k
   simp only[List.getD_cons_succ,List.map_cons,List.sum_cons]
   omega
noncomputable def lawRowsScans:Con:=⟨3,[(true,tLine)],[(false,.bool)],fun x=>(tyL [(true,tLine)]).small x∧(tyL [(true,tLine)]).bulk x≤1048576,fun _=>(true,()),false⟩
set_option maxHeartbeats 4000000 in
theorem lawRowsScans_ok:lawRowsScans.Ok Tryz.prog:=by
 refine con_q Tryz.func3 rfl (by decide) (fun x hx hp=>run_ok (Cs:=[rowsScan,refScan6,awake06]) (stp:=[]) (inl:=[10]) (unr:=false) (cons_ok rowsScan_ok (cons_ok refScan6_ok (cons_ok awake06_ok nil_ok))) 0 _ _ _ _ ?_) (by decide)
 obtain⟨l,⟨⟩⟩:=x
 obtain⟨(no:Int),(kd:Int),(nm:List UInt8),(fs:List (List UInt8)),(nt:List UInt8),⟨⟩⟩:=l
 have hsm:=hp.1
 have hbu:1+(1+(nm.length+1+((fs.map fun(x:List UInt8)=>x.length+1).sum+(nt.length+1+0))))+0≤1048576:=hp.2
 simp only[tyL,Ty.small]at hsm
 have hfl:∀k,(fld (no,kd,nm,fs,nt,()) k).length≤1000000000:=fun k=>by
  have:=sum_get fs k
  unfold fld
  show(fs.getD k []).length≤_
  omega
 clear hp
 have hw:wr .i64 ((fs.length:Int)+1)=((fs.length+1:Nat):Int):=wr_succ (by omega)
 have ht:List.take fs.length (fs++[markS])=fs:=by simp
 have hg:(fs++[markS]).getD fs.length []=markS:=by simp[List.getD_eq_getElem?_getD]
 have hlen:(fs++[markS]).length=fs.length+1:=by simp
 refine run_ok (Cs:=[rowsScan,refScan6,awake06]) (stp:=[]) (inl:=[10]) (unr:=false) (cons_ok rowsScan_ok (cons_ok refScan6_ok (cons_ok awake06_ok nil_ok))) 52 _ _ _ _ ?_
 simp(maxSteps:=4000000)only[go_sem,reduceIte,reduceCtorEq,Z0,Z1,Z2,Z3,Z4,Z5,Z6,Z7,Z8,Z9,ZA,ZB,ZC,ZD,Tryz.f3,lawRowsScans,bIPj10,nEPj10,Tryz.f10,ht,hg,hw,hlen,rowI,eqC,eqC1,rowsScan,refScan6,awake06]
 (repeat' first|apply And.intro|intro _|(show staB _ _=true;kernel_rfl)|(show dynB _ _=true;kernel_rfl)|(show dynP _ _ _=true;kernel_rfl))
 all_goals try first|contradiction|omega|exact hfl _
 refine OkQ.loop (α:=Nat) [0,2,4,5,6,7,8,9,10,11,12,13,14,15,16,17,18,19,20,21,22,23,24,25,26,27,28,29,30,31,32,33,34,35,36,37,38,39,40,41,42,43,44,45,46,47,48,49,50,51,52,53,54,55,56,57,58,59,60,61,62] (fun i=>[(8,.s (.int .i64 (i:Int)))]) (fun _=>[]) (fun i=>i≤fs.length) (fun i=>fs.length - i) 0 (Nat.zero_le _) ?_ fun i hi=>?_
 ·simp(maxSteps:=4000000)only[go_sem,reduceIte,reduceCtorEq,Z0,Z1,Z2,Z3,Z4,Z5,Z6,Z7,Z8,Z9,ZA,ZB,ZC,ZD,rowsScan,refScan6,awake06]
  all_goals first|rfl|exact⟨rfl,rfl⟩|fail
 rcases Nat.lt_or_ge i fs.length with hlt|hge
 ·have dl:decide ((i:Int)<(fs.length:Int))=true:=decide_eq_true (by omega)
  have hwi:wr .i64 ((i:Int)+1)=((i+1:Nat):Int):=wr_succ (by omega)
  have hgi:(fs++[markS]).getD i []=fs.getD i []:=by rw[List.getD_eq_getElem?_getD,List.getD_eq_getElem?_getD,List.getElem?_append_left hlt]
  have de:decide (fs.getD i []=fs.getD i [])=true:=decide_eq_true rfl
  refine go0 kPj0 40 ?_
  simp(maxSteps:=4000000)only[go_sem,reduceIte,reduceCtorEq,Z0,Z1,Z2,Z3,Z4,Z5,Z6,Z7,Z8,Z9,ZA,ZB,ZC,ZD,dl,hwi,hgi,de,rowsScan,refScan6,awake06]
  (repeat' first|apply And.intro|intro _|(show staB _ _=true;kernel_rfl)|(show dynB _ _=true;kernel_rfl)|(show dynP _ _ _=true;kernel_rfl))
  all_goals try first|contradiction|omega
  refine⟨i+1,by omega,by omega,?_⟩
  simp(maxSteps:=4000000)only[go_sem,reduceIte,reduceCtorEq,Z0,Z1,Z2,Z3,Z4,Z5,Z6,Z7,Z8,Z9,ZA,ZB,ZC,ZD,rowsScan,refScan6,awake06]
  all_goals first|rfl|exact⟨rfl,rfl⟩|fail
 have dl:decide ((i:Int)<(fs.length:Int))=false:=decide_eq_false (by omega)
 refine go0 kPj0 40 ?_
 simp(maxSteps:=4000000)only[go_sem,reduceIte,reduceCtorEq,Z0,Z1,Z2,Z3,Z4,Z5,Z6,Z7,Z8,Z9,ZA,ZB,ZC,ZD,dl,rowsScan,refScan6,awake06]
 (repeat' first|apply And.intro|intro _|(show staB _ _=true;kernel_rfl)|(show dynB _ _=true;kernel_rfl)|(show dynP _ _ _=true;kernel_rfl))
 all_goals first|contradiction|omega|rfl|fail
end Go.Proofs.YtcbmonndkjihkaaGreatDoor.Sx
namespace Go.Proofs.YtcbmonndkjihkaaGreatDoor.Sx
set_option linter.unusedSimpArgs false
set_option linter.unusedVariables false
noncomputable section
open Go.ChangeShapes Go.WideShapes Go.ChangeAt Go.RowKit
theorem law_liftedUX{H:Type}{enc:TypeId×Value→H}{C:Checked}{os:Os}{f:FuncId}{fn:Func}{s:ChangeSpec}{conds:List PathCond}{apart fresh handsOn again:Bool}{pl:List (Bool×Ty)}{tb:TypeId}{F:Stop.Interp}
 {laid:List (String×DataW Unit)} (hgw:∀W:World,laidMetH C.prog laid W→W.ShapedOpen C.prog→GW W) (hcon:(lawConU f pl).Ok C.prog)
 (hl:laidOutB C.prog=true) (hvs:s.vars=[]) (hs:∀ds:List (DataW H),ds.length=pl.length→s.fn H ds= {results:=[.lit (.bool true)],args:=ds}) (hp:ParOk C.prog fn.params.toList pl)
 (hr:fn.resultTypes= #[tb]) (htb:C.prog.underlying tb=some .bool)
 (own:ownKnob C.prog.godebug=none) (started:os.Started) (noInit:C.prog.inits.idxOf? f=none) (hfn:C.prog.funcs[f]? =some fn)
 (hsF:((Rows.OpenSpec.upto s).at F)=s)
 (witness:∃(w:World) (tape:Tape) (i:Input),w.os=os∧(w.forCall tape i).Shaped C.prog∧i.vars=[]∧Input.okWide C.prog (w.forCall tape i) .any w.heap.size f i∧
   (Rows.OpenSpec.upto s).preRow enc C.prog fn conds apart laid (w.forCall tape i).memory i.args∧Assume.holds {} C.prog (lone (Frame.enter C.prog f i.args .normal) [] (w.forCall tape i))):
 ReturnsInHanded {} C os f .any ((Rows.OpenSpec.upto s).preRow enc C.prog fn conds apart laid) (((Rows.OpenSpec.upto s).at F).post enc C.prog fn apart fresh handsOn again):=by
 refine returnsInHanded_of_row own started noInit hfn witness ?_
 intro W base args ds gs before hval hW _ hk hsz hL hsh _
 rw[hsF]
 have hW:DataW.Whole enc C.prog fn.params.toList s.vars apart W args.toList ds gs before:=hW
 obtain⟨p,q,hA,hV,hbf,hz,hn⟩:=hW
 have hV':=hV
 rw[hvs]at hV'
 obtain⟨rfl,rfl⟩:=trodVars_none hV'
 obtain⟨x,hx,hxs,hxb⟩:=args_rd (base:=base) pl fn.params.toList args.toList ds p hp hA (fun j t v a b=>hval j t v (by simpa using a) (by simpa using b)) (fun k hk=>by
  have:=List.all_eq_true.1 hsz k
  have hvt:(Rows.OpenSpec.upto s).bare.plain.varTypes C.prog=[]:=by
   simp[DataSpec.varTypes,OpenSpec.bare,ChangeSpec.plain,Rows.OpenSpec.upto,OpenSpec.ofChange,hvs]
  rw[hvt]at this
  simpa using this (by simpa using hk))
 have hwf:=hx.wf
 have hb:Rows.uptoBulkAll (ds++[])≤1048576:=of_decide_eq_true (hk Rows.uptoSmall rfl)
 rw[List.append_nil]at hb
 have:=hcon.calls (fun _=>False) W args.toList x (fun _ h=>h.elim) ⟨hgw W hL hsh,fun _ _ h=>h⟩ hx hwf ⟨hxs,Nat.le_trans hxb hb⟩ 0
 unfold Con.Post at this
 simp only[lawConU]at this
 rw[Array.toArray_toList]at this
 refine this.mono fun e W' hpost=>?_
 obtain⟨v,rfl,hb,_,loc,hv,_⟩:=hpost
 have hv':v= .bool true:=hv
 subst hv'
 exact⟨_,rfl,law_post hl hvs hs hp hr htb ⟨p,[],hA,hV,hbf,hz,hn⟩ hb⟩
end
end Go.Proofs.YtcbmonndkjihkaaGreatDoor.Sx
namespace Go.Proofs.YtcbmonndkjihkaaGreatDoor.Sx
set_option linter.unusedSimpArgs false
set_option linter.unusedVariables false
theorem laidMet_layOver{P:Program}{w0:World}{laid:List (String×DataW Unit)}(args:Array Value)(hf:w0.layFits P laid []=true)(hi:w0.layIfaces P laid (w0.layVars P laid)=true):
 laidMet P laid ((w0.layVars P laid).forCall (fun _ _=>0) ⟨#[],args,[]⟩).memory:=by
 have e1:(laid.filter fun x=>(laid.map (·.1)).contains x.1)=laid:=List.filter_eq_self.2 fun x hx=>List.contains_iff_mem.2 (List.mem_map.2 ⟨x,hx,rfl⟩)
 have e2:(laid.filter fun x=>!(laid.map (·.1)).contains x.1)=[]:=List.filter_eq_nil_iff.2 fun x hx=>by rw[List.contains_iff_mem.2 (List.mem_map.2 ⟨x,hx,rfl⟩)];simp
 have h:laidMet P laid (w0.layVars P laid):=laidMet_layVars (w0:=w0) (laid.map (·.1)) [] (by rw[e1]) (by rw[e1];exact hf) (by rw[e1];exact hi) (by rw[e2];exact LaidIn.none)
 exact h.of_heap (by simp[World.memory,World.forCall,Input.heap])
end Go.Proofs.YtcbmonndkjihkaaGreatDoor.Sx
namespace Go.Proofs.YtcbmonndkjihkaaGreatDoor.Sx
attribute [local irreducible] OkQ Ok
set_option linter.unusedSimpArgs false
set_option linter.unusedVariables false
open Go.RowKit
def laidL:List (String×DataW Unit):=[("math/bits.deBruijn32tab",Rows.laid_math_bits_deBruijn32tab),("math/bits.deBruijn64tab",Rows.laid_math_bits_deBruijn64tab),("internal/strconv.uint64pow10",Rows.laid_internal_strconv_uint64pow10),("unicode/utf8.acceptRanges",Rows.laid_unicode_utf8_acceptRanges),("errors.errorType",Rows.laid_errors_errorType),("strconv.ErrRange",Rows.laid_strconv_ErrRange),("strconv.ErrSyntax",Rows.laid_strconv_ErrSyntax),("unicode/utf8.first",Rows.laid_unicode_utf8_first)]
def laidP:List (String×DataW Unit):=[("math/bits.deBruijn32tab",Rows.laid_math_bits_deBruijn32tab),("math/bits.deBruijn64tab",Rows.laid_math_bits_deBruijn64tab),("internal/strconv.uint64pow10",Rows.laid_internal_strconv_uint64pow10),("unicode/utf8.acceptRanges",Rows.laid_unicode_utf8_acceptRanges),("strconv.ErrRange",Rows.laid_strconv_ErrRange),("strconv.ErrSyntax",Rows.laid_strconv_ErrSyntax),("unicode/utf8.first",Rows.laid_unicode_utf8_first)]
theorem laid_et:Tryz.prog.globalNamed "errors.errorType" =some 0:=by kernel_rfl
theorem laid_rt:(Tryz.prog.cutTypes.find? (·.1== "internal/reflectlite.rtype")).map (·.2)=some 137:=by kernel_rfl
theorem laid_size:∃n,Tryz.prog.types.size=n∧((List.range n).filter fun t=>Tryz.prog.rowNamed t [101,114,114,111,114])=[39]:=⟨_,rfl,by kernel_rfl⟩
theorem laid_GWet{W:World}(h:laidMetH Tryz.prog laidL W):W.cell? ⟨0,0,none⟩=some (.iface 137 (.agg #[.pointer (some ⟨9,39,none⟩)])):=by
 have h':laidMet Tryz.prog laidP W∧handlesMet Tryz.prog [("errors.errorType",Rows.laid_errors_errorType)] W:=h
 obtain⟨name,u,ty,e1,e2,e3,e4,e5⟩:=h'.2 _ (List.mem_singleton.2 rfl)
 have en:name=[101,114,114,111,114]:=(Option.some.inj e1).symm
 subst en
 obtain rfl:=Option.some.inj (laid_rt.symm.trans e2)
 obtain⟨n,hn,hone⟩:=laid_size
 have hm:ty∈(List.range n).filter fun t=>Tryz.prog.rowNamed t [101,114,114,111,114]:=List.mem_filter.2 ⟨List.mem_range.2 (by rw[←hn];exact e3),e4⟩
 rw[hone]at hm
 obtain rfl:=List.mem_singleton.1 hm
 have hh:typeHandle Tryz.prog 39= .pointer (some ⟨9,39,none⟩):=by kernel_rfl
 rw[hh]at e5
 simpa using World.var?_cell laid_et e5 0
theorem laid_plain{W:World}(h:laidMetH Tryz.prog laidL W):laidMet Tryz.prog laidP W:=(show laidMet Tryz.prog laidP W∧handlesMet Tryz.prog [("errors.errorType",Rows.laid_errors_errorType)] W from h).1
theorem laid_pow:(Rows.laid_internal_strconv_uint64pow10:DataW Unit)=Lib.tabData .u64 Lib.pow10Tab:=by rfl
theorem laid_gn:Tryz.prog.globalNamed "internal/strconv.uint64pow10" =some 4:=by kernel_rfl
theorem laid_GWpow{W:World}(h:laidMet Tryz.prog laidP W):∃T fz,W.heap[4]? =some (.cells (Lib.pow10Tab.map fun z=>Value.int .u64 z).toArray T fz):=by
 have h1:laidMet Tryz.prog (("internal/strconv.uint64pow10",Rows.laid_internal_strconv_uint64pow10)::[("unicode/utf8.acceptRanges",Rows.laid_unicode_utf8_acceptRanges),("strconv.ErrRange",Rows.laid_strconv_ErrRange),("strconv.ErrSyntax",Rows.laid_strconv_ErrSyntax),("unicode/utf8.first",Rows.laid_unicode_utf8_first)]) W:=h.tail.tail
 rw[laid_pow]at h1
 have ht:=Lib.tabIs_of_head (g:=4) laid_gn (t:=235) (by kernel_rfl) (n:=20) (e:=212) (by kernel_rfl) (by kernel_rfl) (by kernel_rfl) (by kernel_rfl) h1
 unfold Lib.TabIs World.var? at ht
 rw[laid_gn]at ht
 simp only[Option.bind_some]at ht
 split at ht
 ·rename_i cs T fz hh
  cases ht
  exact⟨T,fz,hh⟩
 ·cases ht
theorem laid_gnsyn:Tryz.prog.globalNamed "strconv.ErrSyntax" =some 1:=by kernel_rfl
theorem laid_GWsyn{W:World}(h:laidMet Tryz.prog laidP W):∃t u,W.cell? ⟨1,0,none⟩=some (.iface t u):=by
 have h1:laidMet Tryz.prog (("strconv.ErrSyntax",Rows.laid_strconv_ErrSyntax)::[("unicode/utf8.first",Rows.laid_unicode_utf8_first)]) W:=h.tail.tail.tail.tail.tail
 obtain⟨ps,⟨g0,t0,cs0,f0,p0,q0,hg0,ht0,hv0,hd0,_,e0⟩,_,hrows⟩:=h1
 obtain rfl:=Option.some.inj (laid_gnsyn.symm.trans hg0)
 obtain rfl:=Option.some.inj ((show(Tryz.prog.globals[1]?).map (·.type)=some 39 by kernel_rfl).symm.trans ht0)
 obtain⟨l0⟩:=cs0
 obtain⟨_,t,u,rfl,_⟩:=iface_of_trod Tryz.underlying39 hd0
 exact⟨t,u,by simpa using World.var?_cell laid_gnsyn hv0 0⟩
theorem laid_gnrng:Tryz.prog.globalNamed "strconv.ErrRange" =some 2:=by kernel_rfl
theorem laid_GWrng{W:World}(h:laidMet Tryz.prog laidP W):∃t u,W.cell? ⟨2,0,none⟩=some (.iface t u):=by
 have h1:laidMet Tryz.prog (("strconv.ErrRange",Rows.laid_strconv_ErrRange)::[("strconv.ErrSyntax",Rows.laid_strconv_ErrSyntax),("unicode/utf8.first",Rows.laid_unicode_utf8_first)]) W:=h.tail.tail.tail.tail
 obtain⟨ps,⟨g0,t0,cs0,f0,p0,q0,hg0,ht0,hv0,hd0,_,e0⟩,_,hrows⟩:=h1
 obtain rfl:=Option.some.inj (laid_gnrng.symm.trans hg0)
 obtain rfl:=Option.some.inj ((show(Tryz.prog.globals[2]?).map (·.type)=some 39 by kernel_rfl).symm.trans ht0)
 obtain⟨l0⟩:=cs0
 obtain⟨_,t,u,rfl,_⟩:=iface_of_trod Tryz.underlying39 hd0
 exact⟨t,u,by simpa using World.var?_cell laid_gnrng hv0 0⟩
theorem laid_GWmx{W:World}(h:W.ShapedOpen Tryz.prog):∃m,W.cell? ⟨3,0,none⟩=some (.int .i64 m):=
 Go.Proofs.cell_of_shapedOpen_int (t:=3) (zero:= #[.int .i64 0]) h (by decide+kernel) (by kernel_rfl) rfl (by kernel_rfl) (by kernel_rfl) (by kernel_rfl)
theorem laid_GW{W:World}(h0:laidMetH Tryz.prog laidL W)(hs:W.ShapedOpen Tryz.prog):GW W:=
 have hp:=laid_plain h0
 {et:=laid_GWet h0,
  pow:=laid_GWpow hp,
  syn:=laid_GWsyn hp,
  rng:=laid_GWrng hp,
  mx:=laid_GWmx hs}
noncomputable def laidW0(os:Os):World:=
 let w0:=World.holding Tryz.prog os ⟨#[],#[],[]⟩
 {w0 with heap:=w0.heap.modify 0 fun
   | .cells _ t frozen=> .cells #[.iface 137 (.agg #[.pointer (some ⟨9,39,none⟩)])] t frozen
   |o=>o}
noncomputable def laidWorld(os:Os):World:=(laidW0 os).layVars Tryz.prog laidP
theorem laidWorld_os(os:Os):(laidWorld os).os=os:=World.layVars_os _ _ _
set_option maxRecDepth 100000 in
theorem laidWorld_met(os:Os)(args:Array Value):laidMetH Tryz.prog laidL ((laidWorld os).forCall (fun _ _=>0) ⟨#[],args,[]⟩).memory:=
 laidMetH_of_parts (show laidMet Tryz.prog laidP _ from laidMet_layOver args (by kernel_rfl) (by kernel_rfl)) (by kernel_rfl)
end Go.Proofs.YtcbmonndkjihkaaGreatDoor.Sx
namespace Go.Proofs.YtcbmonndkjihkaaGreatDoor.RowsScans
set_option linter.unusedSimpArgs false
set_option linter.unusedVariables false
open Go.ChangeShapes Go.WideShapes Go.ChangeAt Go.RowKit Go.Proofs.YtcbmonndkjihkaaGreatDoor.Sx
theorem own:ownKnob Tryz.prog.godebug=none:=by kernel_rfl
theorem laidOut:laidOutB Tryz.prog=true:=by kernel_rfl
theorem reads(os:Os){H:Type}(enc:TypeId×Value→H):∃places,DataW.whole enc Tryz.prog ((laidWorld os).forCall (fun _ _=>0) ⟨#[],#[.agg #[.int .i64 0,.int .u8 0,.string ⟨#[]⟩,.slice none 0 0,.string ⟨#[]⟩]],[]⟩).memory Tryz.f3.params.toList Rows.rowsScansSpec.vars false #[.agg #[.int .i64 0,.int .u8 0,.string ⟨#[]⟩,.slice none 0 0,.string ⟨#[]⟩]].toList 8=some ([.agg [.lit (.int .i64 0),.lit (.int .u8 0),.lit (.string []),.nil,.lit (.string [])]],[],places):=
 ⟨[],by kernel_rfl⟩
set_option maxRecDepth 100000 in
theorem lifted(os:Os)(started:os.Started)(H:Type)(enc:TypeId×Value→H)(F:Stop.Interp):
 ReturnsInHanded {} Tryz.checked os 3 .any ((Rows.OpenSpec.upto Rows.rowsScansSpec).preRow enc Tryz.prog Tryz.f3 Rows.rowsScansUptoRow.domain false Rows.rowsScansUptoRow.laid) (((Rows.OpenSpec.upto Rows.rowsScansSpec).at F).post enc Tryz.prog Tryz.f3 false true false false):=by
 obtain⟨places,hx⟩:=reads os enc
 exact law_liftedUX (C:=Tryz.checked) (pl:=[(true,tLine)]) (tb:=4) (laid:=Rows.rowsScansUptoRow.laid) (fun _ h hs=>laid_GW h hs) lawRowsScans_ok laidOut rfl (fun ds h=>match ds,h with|[_],_=>rfl)
  ⟨⟨by kernel_rfl,by kernel_rfl,by kernel_rfl,by kernel_rfl,by kernel_rfl⟩,trivial⟩ (by kernel_rfl) (by kernel_rfl) own started (by kernel_rfl) Tryz.func3 rfl
  (witness_row_at (enc:=enc) (C:=Tryz.checked) false (laidWorld os) #[.agg #[.int .i64 0,.int .u8 0,.string ⟨#[]⟩,.slice none 0 0,.string ⟨#[]⟩]] (laidWorld_os os) (by kernel_rfl) (by kernel_rfl) (by kernel_rfl)
    (OpenSpec.preRow_of_cond 8 hx (by kernel_rfl) (fun k hk=>by cases hk;kernel_rfl) (by kernel_rfl) (laidWorld_met os _)))
theorem rowHolds:Rows.RowsScansUptoSaid:=
 OpenClaim.holds_of_cond 3 Tryz.f3 rfl rfl rfl rfl rfl rfl rfl ⟨rfl,rfl,rfl,rfl,rfl⟩ rfl rfl rfl rfl rfl (by kernel_rfl) Tryz.func3 (by kernel_rfl)
  (of_decide_eq_true (by kernel_rfl)) (by unfold Func.isWrapper;first|(rw[if_pos (by decide+kernel)];kernel_rfl)|(rw[if_neg (by decide+kernel)];exact⟨rfl,rfl⟩))
  (fun os started H enc _ F=>by rw[OpenClaim.pre_eq_preRow];exact lifted os started H enc F)
theorem proved:Rows.RowsScansUptoCardSaid:=
 Claim7.holds_tied_plain_at .later [] [.data,.data,.data,.data,.handle,.sentinel,.sentinel,.pinned] true (true,Rows.rowsScansUptoCard.stood.harness.2) true
  rowHolds (fun _ h=>by cases h) (by kernel_rfl) (fun _ h=>by cases h) rowsScansUpto_row_tie rfl ⟨rfl,rfl⟩ (by kernel_rfl) rfl
  (fun f fn hf hfn=>by
    obtain rfl:f=3:=Option.some.inj ((show Tryz.prog.funcNamed "furrow/furrowlaw06.RowsScans" =some 3 by kernel_rfl).symm.trans hf) |>.symm
    obtain rfl:fn=Tryz.f3:=(Option.some.inj (Tryz.func3.symm.trans hfn)).symm
    exact⟨by kernel_rfl,fun j t ht=>by
     have key:∀t∈Tryz.f3.params.toList,Tryz.prog.wantsStandIn t=false:=by decide+kernel
     exact key t (List.mem_of_getElem? (by simpa using ht))⟩)
  (by kernel_rfl)
#print axioms proved
end Go.Proofs.YtcbmonndkjihkaaGreatDoor.RowsScans
