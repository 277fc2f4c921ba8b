/- A part of the proof. -/
import Derived.Test.YthopfpplnclanaaGreatDoorW8
import Derived.Test.YthopfpplnclanaaGreatDoorW0
import Derived.Test.YthopfpplnclanaaGreatDoorW1
import Derived.Test.YthopfpplnclanaaGreatDoorW2
import Derived.Test.YthopfpplnclanaaGreatDoorW3
import Derived.Test.YthopfpplnclanaaGreatDoorW4
import Derived.Test.YthopfpplnclanaaGreatDoorW5
import Derived.Test.YthopfpplnclanaaGreatDoorW6
import Derived.Test.YthopfpplnclanaaGreatDoorW7
namespace Go.Proofs.YthopfpplnclanaaGreatDoor.Sx
attribute [local irreducible] OkQ Ok RetD
set_option linter.unusedSimpArgs false
set_option linter.unusedVariables false
open Nat renaming reduceEqDiff→Z0,reduceBEq→Z1,reduceAdd→Z2,reduceSub→Z3,reduceMul→Z4,reduceLeDiff→Z5
open Int renaming reduceEq→Z6,reduceLE→Z7,reduceLT→Z8,reduceNeg→Z9,reduceToNat→ZA,reduceAdd→ZB,reduceSub→ZC,reduceMul→ZD
set_option maxRecDepth 8000
set_option maxHeartbeats 40000000 in
theorem ea_A(file t:List UInt8)(few:Int)(x:RdS)(hz:t.length≤100000000000)(hx:EaP few t x)(hq:¬(x.1<(pcsV t).length∧¬(pAt t x).1=(pAt t x).2.2.1∧scanE (lineOf t (pAt t x))=0)):eRound.1 file t few x:=by
 unfold eRound
 dsimp only
 obtain⟨i,out,lv,od,wn,tn⟩:=x
 obtain⟨hi,hol,hfo,hfw⟩:=hx
 dsimp only[pAt,lAt]at hi hol hfo hfw hq ⊢
 have hpl:(pcsV t).length≤t.length+1:=by
  have:=pcs_len t (t.length+1) (bomN t) (bom_len t)
  unfold pcsV
  omega
 have hout:List.take out.length out=out:=List.take_length
 rcases Nat.lt_or_ge i (pcsV t).length with hlt|hge
 case inr=>
  have e:i=(pcsV t).length:=by omega
  subst e
  rw[List.drop_length,cdFold]at hfo
  have dl:decide (((pcsV t).length:Int)<((pcsV t).length:Int))=false:=decide_eq_false (by omega)
  have e1:=hfo.symm
  refine run_ok (Cs:=[linPieces,linScan,wrdBlank,cNumber,cOne,wrdClasses,cCheck,cloneLv,cloneOd,lawTwin]) (stp:=[]) (inl:=[9,21,24,35,36,47,33,45,25]) (unr:=false) (cons_ok linPieces_ok (cons_ok linScan_ok (cons_ok wrdBlank_ok (cons_ok cNumber_ok (cons_ok cOne_ok (cons_ok wrdClasses_ok (cons_ok cCheck_ok (cons_ok cloneLv_ok (cons_ok cloneOd_ok (cons_ok lawTwin_ok nil_ok)))))))))) 60 _ _ _ _ ?_
  simp(maxSteps:=4000000)only[go_sem,reduceIte,reduceCtorEq,Z0,Z1,Z2,Z3,Z4,Z5,Z6,Z7,Z8,Z9,ZA,ZB,ZC,ZD,dl,oneN,oneP,oneM,oneF,linPieces,linScan,wrdBlank,cNumber,cOne,wrdClasses,cCheck,cloneLv,cloneOd,lawTwin]
  (repeat' first|apply And.intro|intro _|(show staB _ _=true;kernel_rfl)|(show dynB _ _=true;kernel_rfl)|(show dynP _ _ _=true;kernel_rfl))
  all_goals try first|contradiction|omega
  have h9:eachL few out=out:=if_neg (by rcases hfw with h|h<;>omega)
  refine RetD.mk (fun _=>?_) (fun h=>((show _∧¬eOk few t from h).2 (.inl (by rw[e1]))).elim)
  simp(maxSteps:=4000000)only[go_sem,reduceIte,reduceCtorEq,Z0,Z1,Z2,Z3,Z4,Z5,Z6,Z7,Z8,Z9,ZA,ZB,ZC,ZD,cEach,e1,h9,oneN,linPieces,linScan,wrdBlank,cNumber,cOne,wrdClasses,cCheck,cloneLv,cloneOd,lawTwin]
  (repeat' first|apply And.intro|intro _|(show staB _ _=true;kernel_rfl)|(show dynB _ _=true;kernel_rfl)|(show dynP _ _ _=true;kernel_rfl))
  all_goals first|contradiction|omega|rfl|exact hout|fail
 obtain⟨hdr,q0,q1,q2⟩:=pcd_at hlt
 have cA:(pcsV t).getD i (0,0,0,())=(pcsV t).getD i pcdZ:=rfl
 generalize (pcsV t).getD i pcdZ=p at*
 have dl:decide ((i:Int)<((pcsV t).length:Int))=true:=decide_eq_true (by omega)
 rw[hdr,cdFold]at hfo
 have hw:wr .i64 ((i:Int)+1)=((i+1:Nat):Int):=wr_succ (by omega)
 by_cases hE:p.1=p.2.2.1
 ·have dE:decide (p.1=p.2.2.1)=true:=decide_eq_true hE
  rw[if_pos hE]at hfo
  have e1:=hfo.symm
  refine run_ok (Cs:=[linPieces,linScan,wrdBlank,cNumber,cOne,wrdClasses,cCheck,cloneLv,cloneOd,lawTwin]) (stp:=[]) (inl:=[9,21,24,35,36,47,33,45,25]) (unr:=false) (cons_ok linPieces_ok (cons_ok linScan_ok (cons_ok wrdBlank_ok (cons_ok cNumber_ok (cons_ok cOne_ok (cons_ok wrdClasses_ok (cons_ok cCheck_ok (cons_ok cloneLv_ok (cons_ok cloneOd_ok (cons_ok lawTwin_ok nil_ok)))))))))) 60 _ _ _ _ ?_
  simp(maxSteps:=4000000)only[go_sem,reduceIte,reduceCtorEq,Z0,Z1,Z2,Z3,Z4,Z5,Z6,Z7,Z8,Z9,ZA,ZB,ZC,ZD,dl,cA,dE,oneN,oneP,oneM,oneF,linPieces,linScan,wrdBlank,cNumber,cOne,wrdClasses,cCheck,cloneLv,cloneOd,lawTwin]
  (repeat' first|apply And.intro|intro _|(show staB _ _=true;kernel_rfl)|(show dynB _ _=true;kernel_rfl)|(show dynP _ _ _=true;kernel_rfl))
  all_goals try first|contradiction|omega
  have h9:eachL few out=out:=if_neg (by rcases hfw with h|h<;>omega)
  refine RetD.mk (fun _=>?_) (fun h=>((show _∧¬eOk few t from h).2 (.inl (by rw[e1]))).elim)
  simp(maxSteps:=4000000)only[go_sem,reduceIte,reduceCtorEq,Z0,Z1,Z2,Z3,Z4,Z5,Z6,Z7,Z8,Z9,ZA,ZB,ZC,ZD,cEach,e1,h9,oneN,linPieces,linScan,wrdBlank,cNumber,cOne,wrdClasses,cCheck,cloneLv,cloneOd,lawTwin]
  (repeat' first|apply And.intro|intro _|(show staB _ _=true;kernel_rfl)|(show dynB _ _=true;kernel_rfl)|(show dynP _ _ _=true;kernel_rfl))
  all_goals first|contradiction|omega|rfl|exact hout|fail
 have dE:decide (p.1=p.2.2.1)=false:=decide_eq_false hE
 rw[if_neg hE]at hfo
 have hl:List.take (p.2.1.toNat - p.1.toNat) (List.drop p.1.toNat t)=lineOf t p:=by
  unfold lineOf
  congr 1
  omega
 have hll:(lineOf t p).length≤t.length:=by unfold lineOf;simp;omega
 by_cases hS:scanE (lineOf t p)=0
 case pos=>exact absurd ⟨hlt,hE,hS⟩ hq
 case neg=>
  have dS:decide (scanE (lineOf t p)=0)=false:=decide_eq_false hS
  rw[if_pos hS]at hfo
  have e1:=hfo.symm
  refine run_ok (Cs:=[linPieces,linScan,wrdBlank,cNumber,cOne,wrdClasses,cCheck,cloneLv,cloneOd,lawTwin]) (stp:=[]) (inl:=[9,21,24,35,36,47,33,45,25]) (unr:=false) (cons_ok linPieces_ok (cons_ok linScan_ok (cons_ok wrdBlank_ok (cons_ok cNumber_ok (cons_ok cOne_ok (cons_ok wrdClasses_ok (cons_ok cCheck_ok (cons_ok cloneLv_ok (cons_ok cloneOd_ok (cons_ok lawTwin_ok nil_ok)))))))))) 200 _ _ _ _ ?_
  simp(maxSteps:=4000000)only[go_sem,reduceIte,reduceCtorEq,Z0,Z1,Z2,Z3,Z4,Z5,Z6,Z7,Z8,Z9,ZA,ZB,ZC,ZD,dl,cA,dE,hw,hl,dS,oneN,oneP,oneM,oneF,linPieces,linScan,wrdBlank,cNumber,cOne,wrdClasses,cCheck,cloneLv,cloneOd,lawTwin]
  (repeat' first|apply And.intro|intro _|(show staB _ _=true;kernel_rfl)|(show dynB _ _=true;kernel_rfl)|(show dynP _ _ _=true;kernel_rfl))
  all_goals try first|contradiction|omega
  have hnO:¬eOk few t:=by
   unfold eOk
   rw[e1]
   rintro(q|q)
   ·exact hS q
   ·dsimp only at q
    rcases hfw with h|h<;>omega
  refine RetD.mk (fun h=>(hnO (show _∧eOk few t from h).2).elim) (fun _=>?_)
  refine RetM.of ?_
  show RetMC _ _ cEachX (file,t,few,()) _
  simp(maxSteps:=4000000)only[go_sem,reduceIte,reduceCtorEq,Z0,Z1,Z2,Z3,Z4,Z5,Z6,Z7,Z8,Z9,ZA,ZB,ZC,ZD,RetMC,mPick,cEachX,e1,oneN,linPieces,linScan,wrdBlank,cNumber,cOne,wrdClasses,cCheck,cloneLv,cloneOd,lawTwin]
  (repeat' first|apply And.intro|intro _|(show staB _ _=true;kernel_rfl)|(show dynB _ _=true;kernel_rfl)|(show dynP _ _ _=true;kernel_rfl))
  all_goals first|contradiction|omega|rfl|exact hout|fail
set_option maxHeartbeats 40000000 in
theorem ea_N(file t:List UInt8)(few:Int)(x:RdS)(hz:t.length≤100000000000)(hx:EaP few t x)(hlt:x.1<(pcsV t).length)(hE:¬(pAt t x).1=(pAt t x).2.2.1)(hS:scanE (lineOf t (pAt t x))=0)(h2:(lAt t x).2.1=2)(hL:¬(lAt t x).2.2.1=levS)(hR:¬(lAt t x).2.2.1=reoS):eRound.1 file t few x:=by
 unfold eRound
 dsimp only
 obtain⟨i,out,lv,od,wn,tn⟩:=x
 obtain⟨hi,hol,hfo,hfw⟩:=hx
 dsimp only[pAt,lAt]at hi hol hfo hfw hlt hE hS h2 hL hR ⊢
 have hpl:(pcsV t).length≤t.length+1:=by
  have:=pcs_len t (t.length+1) (bomN t) (bom_len t)
  unfold pcsV
  omega
 have hout:List.take out.length out=out:=List.take_length
 obtain⟨hdr,q0,q1,q2⟩:=pcd_at hlt
 have cA:(pcsV t).getD i (0,0,0,())=(pcsV t).getD i pcdZ:=rfl
 generalize (pcsV t).getD i pcdZ=p at*
 have dl:decide ((i:Int)<((pcsV t).length:Int))=true:=decide_eq_true (by omega)
 rw[hdr,cdFold]at hfo
 have hw:wr .i64 ((i:Int)+1)=((i+1:Nat):Int):=wr_succ (by omega)
 have dE:decide (p.1=p.2.2.1)=false:=decide_eq_false hE
 rw[if_neg hE]at hfo
 have hl:List.take (p.2.1.toNat - p.1.toNat) (List.drop p.1.toNat t)=lineOf t p:=by
  unfold lineOf
  congr 1
  omega
 have hll:(lineOf t p).length≤t.length:=by unfold lineOf;simp;omega
 have dS:decide (scanE (lineOf t p)=0)=true:=decide_eq_true hS
 have hv:scanV ((i+1:Nat):Int) (lineOf t p)=partsV ((i+1:Nat):Int) (lineOf t p):=if_pos hS
 rw[if_neg (by simp[hS])]at hfo
 obtain⟨l,hld⟩:∃l,l=partsV ((i+1:Nat):Int) (lineOf t p):=⟨_,rfl⟩
 rw[←hld]at hfo hv h2 hL hR
 have hno:l.1=((i+1:Nat):Int):=by rw[hld];exact parts_no _ _
 have d2:decide (l.2.1=2)=true:=decide_eq_true h2
 have d1:decide (l.2.1=1)=false:=decide_eq_false (by omega)
 focus
  have hfo':cdFold t (i+1+1) ((pcsV t).drop (i+1)) (lv,od,wn,tn) out=casesV t:=by
   have hs:stC (lv,od,wn,tn) l=(0,(lv,od,wn,tn),[]):=by unfold stC;rw[if_pos h2,if_neg hL,if_neg hR]
   rw[←hfo,hs,if_neg (by simp),List.append_nil]
  have n1:decide (l.2.2.1=[76,101,118,101,108,115])=false:=decide_eq_false hL
  have n2:decide (l.2.2.1=[82,101,111,114,100,101,114])=false:=decide_eq_false hR
  refine run_ok (Cs:=[linPieces,linScan,wrdBlank,cNumber,cOne,wrdClasses,cCheck,cloneLv,cloneOd,lawTwin]) (stp:=[]) (inl:=[9,21,24,35,36,47,33,45,25]) (unr:=false) (cons_ok linPieces_ok (cons_ok linScan_ok (cons_ok wrdBlank_ok (cons_ok cNumber_ok (cons_ok cOne_ok (cons_ok wrdClasses_ok (cons_ok cCheck_ok (cons_ok cloneLv_ok (cons_ok cloneOd_ok (cons_ok lawTwin_ok nil_ok)))))))))) 200 _ _ _ _ ?_
  simp(maxSteps:=4000000)only[go_sem,reduceIte,reduceCtorEq,Z0,Z1,Z2,Z3,Z4,Z5,Z6,Z7,Z8,Z9,ZA,ZB,ZC,ZD,dl,cA,dE,hw,hl,dS,hv,d2,oneN,oneP,oneM,oneF,linPieces,linScan,wrdBlank,cNumber,cOne,wrdClasses,cCheck,cloneLv,cloneOd,lawTwin]
  (repeat' first|apply And.intro|intro _|(show staB _ _=true;kernel_rfl)|(show dynB _ _=true;kernel_rfl)|(show dynP _ _ _=true;kernel_rfl))
  all_goals try first|contradiction|omega
  refine OkQ.opX (u:=⟨.s (.val .nilFunc),[],28⟩) ?hs rfl ?_
  case hs=>
   have m1:mapI Tryz.prog 66=some (9,65):=by kernel_rfl
   have m2:isStr Tryz.prog 9=true:=by kernel_rfl
   have m3:zeroV Tryz.prog 65=some .nilFunc:=by kernel_rfl
   simp(maxSteps:=4000000)only[go_sem,reduceIte,reduceCtorEq,Z0,Z1,Z2,Z3,Z4,Z5,Z6,Z7,Z8,Z9,ZA,ZB,ZC,ZD,stepX,xLookup,m1,mapOf,keyI,m2,findM,fkey,n1,n2,m3,lookR,linPieces,linScan,wrdBlank,cNumber,cOne,wrdClasses,cCheck,cloneLv,cloneOd,lawTwin]
   all_goals first|rfl|fail
  refine run_ok (Cs:=[linPieces,linScan,wrdBlank,cNumber,cOne,wrdClasses,cCheck,cloneLv,cloneOd,lawTwin]) (stp:=[]) (inl:=[9,21,24,35,36,47,33,45,25]) (unr:=false) (cons_ok linPieces_ok (cons_ok linScan_ok (cons_ok wrdBlank_ok (cons_ok cNumber_ok (cons_ok cOne_ok (cons_ok wrdClasses_ok (cons_ok cCheck_ok (cons_ok cloneLv_ok (cons_ok cloneOd_ok (cons_ok lawTwin_ok nil_ok)))))))))) 20 _ _ _ _ ?_
  simp(maxSteps:=4000000)only[go_sem,reduceIte,reduceCtorEq,Z0,Z1,Z2,Z3,Z4,Z5,Z6,Z7,Z8,Z9,ZA,ZB,ZC,ZD,oneN,oneP,oneM,oneF,linPieces,linScan,wrdBlank,cNumber,cOne,wrdClasses,cCheck,cloneLv,cloneOd,lawTwin]
  refine OkQ.nilNil rfl rfl (by kernel_rfl) rfl (by trivial) ?_
  refine run_ok (Cs:=[linPieces,linScan,wrdBlank,cNumber,cOne,wrdClasses,cCheck,cloneLv,cloneOd,lawTwin]) (stp:=[]) (inl:=[9,21,24,35,36,47,33,45,25]) (unr:=false) (cons_ok linPieces_ok (cons_ok linScan_ok (cons_ok wrdBlank_ok (cons_ok cNumber_ok (cons_ok cOne_ok (cons_ok wrdClasses_ok (cons_ok cCheck_ok (cons_ok cloneLv_ok (cons_ok cloneOd_ok (cons_ok lawTwin_ok nil_ok)))))))))) 200 _ _ _ _ ?_
  simp(maxSteps:=4000000)only[go_sem,reduceIte,reduceCtorEq,Z0,Z1,Z2,Z3,Z4,Z5,Z6,Z7,Z8,Z9,ZA,ZB,ZC,ZD,d1,oneN,oneP,oneM,oneF,linPieces,linScan,wrdBlank,cNumber,cOne,wrdClasses,cCheck,cloneLv,cloneOd,lawTwin]
  (repeat' first|apply And.intro|intro _|(show staB _ _=true;kernel_rfl)|(show dynB _ _=true;kernel_rfl)|(show dynP _ _ _=true;kernel_rfl))
  all_goals try first|contradiction|omega
  refine backK.mk (i+1,out,(lv,od,wn,tn)) ⟨by dsimp only;omega,by dsimp only;first|omega|(rw[List.length_append];simp;omega),hfo',hfw⟩ (by dsimp only;omega) ?_
  simp(maxSteps:=4000000)only[go_sem,reduceIte,reduceCtorEq,Z0,Z1,Z2,Z3,Z4,Z5,Z6,Z7,Z8,Z9,ZA,ZB,ZC,ZD,hw,linPieces,linScan,wrdBlank,cNumber,cOne,wrdClasses,cCheck,cloneLv,cloneOd,lawTwin]
  all_goals first|rfl|exact hw|exact⟨rfl,rfl⟩|exact⟨⟨rfl,rfl⟩,rfl⟩|exact⟨rfl,rfl,rfl⟩|fail
set_option maxHeartbeats 40000000 in
theorem ea_K(file t:List UInt8)(few:Int)(x:RdS)(hz:t.length≤100000000000)(hx:EaP few t x)(hlt:x.1<(pcsV t).length)(hE:¬(pAt t x).1=(pAt t x).2.2.1)(hS:scanE (lineOf t (pAt t x))=0)(h2:¬(lAt t x).2.1=2)(h1:¬(lAt t x).2.1=1):eRound.1 file t few x:=by
 unfold eRound
 dsimp only
 obtain⟨i,out,lv,od,wn,tn⟩:=x
 obtain⟨hi,hol,hfo,hfw⟩:=hx
 dsimp only[pAt,lAt]at hi hol hfo hfw hlt hE hS h2 h1 ⊢
 have hpl:(pcsV t).length≤t.length+1:=by
  have:=pcs_len t (t.length+1) (bomN t) (bom_len t)
  unfold pcsV
  omega
 have hout:List.take out.length out=out:=List.take_length
 obtain⟨hdr,q0,q1,q2⟩:=pcd_at hlt
 have cA:(pcsV t).getD i (0,0,0,())=(pcsV t).getD i pcdZ:=rfl
 generalize (pcsV t).getD i pcdZ=p at*
 have dl:decide ((i:Int)<((pcsV t).length:Int))=true:=decide_eq_true (by omega)
 rw[hdr,cdFold]at hfo
 have hw:wr .i64 ((i:Int)+1)=((i+1:Nat):Int):=wr_succ (by omega)
 have dE:decide (p.1=p.2.2.1)=false:=decide_eq_false hE
 rw[if_neg hE]at hfo
 have hl:List.take (p.2.1.toNat - p.1.toNat) (List.drop p.1.toNat t)=lineOf t p:=by
  unfold lineOf
  congr 1
  omega
 have hll:(lineOf t p).length≤t.length:=by unfold lineOf;simp;omega
 have dS:decide (scanE (lineOf t p)=0)=true:=decide_eq_true hS
 have hv:scanV ((i+1:Nat):Int) (lineOf t p)=partsV ((i+1:Nat):Int) (lineOf t p):=if_pos hS
 rw[if_neg (by simp[hS])]at hfo
 obtain⟨l,hld⟩:∃l,l=partsV ((i+1:Nat):Int) (lineOf t p):=⟨_,rfl⟩
 rw[←hld]at hfo hv h2 h1
 have hno:l.1=((i+1:Nat):Int):=by rw[hld];exact parts_no _ _
 have d2:decide (l.2.1=2)=false:=decide_eq_false h2
 have d1:decide (l.2.1=1)=false:=decide_eq_false h1
 focus
  have hfo':cdFold t (i+1+1) ((pcsV t).drop (i+1)) (lv,od,wn,tn) out=casesV t:=by
   have hs:stC (lv,od,wn,tn) l=(0,(lv,od,wn,tn),[]):=by unfold stC;rw[if_neg h2,if_neg h1]
   rw[←hfo,hs,if_neg (by simp),List.append_nil]
  refine run_ok (Cs:=[linPieces,linScan,wrdBlank,cNumber,cOne,wrdClasses,cCheck,cloneLv,cloneOd,lawTwin]) (stp:=[]) (inl:=[9,21,24,35,36,47,33,45,25]) (unr:=false) (cons_ok linPieces_ok (cons_ok linScan_ok (cons_ok wrdBlank_ok (cons_ok cNumber_ok (cons_ok cOne_ok (cons_ok wrdClasses_ok (cons_ok cCheck_ok (cons_ok cloneLv_ok (cons_ok cloneOd_ok (cons_ok lawTwin_ok nil_ok)))))))))) 200 _ _ _ _ ?_
  simp(maxSteps:=4000000)only[go_sem,reduceIte,reduceCtorEq,Z0,Z1,Z2,Z3,Z4,Z5,Z6,Z7,Z8,Z9,ZA,ZB,ZC,ZD,dl,cA,dE,hw,hl,dS,hv,d2,d1,oneN,oneP,oneM,oneF,linPieces,linScan,wrdBlank,cNumber,cOne,wrdClasses,cCheck,cloneLv,cloneOd,lawTwin]
  (repeat' first|apply And.intro|intro _|(show staB _ _=true;kernel_rfl)|(show dynB _ _=true;kernel_rfl)|(show dynP _ _ _=true;kernel_rfl))
  all_goals try first|contradiction|omega
  refine backK.mk (i+1,out,(lv,od,wn,tn)) ⟨by dsimp only;omega,by dsimp only;first|omega|(rw[List.length_append];simp;omega),hfo',hfw⟩ (by dsimp only;omega) ?_
  simp(maxSteps:=4000000)only[go_sem,reduceIte,reduceCtorEq,Z0,Z1,Z2,Z3,Z4,Z5,Z6,Z7,Z8,Z9,ZA,ZB,ZC,ZD,hw,linPieces,linScan,wrdBlank,cNumber,cOne,wrdClasses,cCheck,cloneLv,cloneOd,lawTwin]
  all_goals first|rfl|exact hw|exact⟨rfl,rfl⟩|exact⟨⟨rfl,rfl⟩,rfl⟩|exact⟨rfl,rfl,rfl⟩|fail
end Go.Proofs.YthopfpplnclanaaGreatDoor.Sx
