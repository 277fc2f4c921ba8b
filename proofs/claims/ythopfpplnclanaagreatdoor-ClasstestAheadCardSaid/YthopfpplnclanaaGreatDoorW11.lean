/- A part of the proof. -/
import Derived.Test.YthopfpplnclanaaGreatDoorW8
import Derived.Test.YthopfpplnclanaaGreatDoorW0
import Derived.Test.YthopfpplnclanaaGreatDoorW1
import Derived.Test.YthopfpplnclanaaGreatDoorW2
import Derived.Test.YthopfpplnclanaaGreatDoorW3
import Derived.Test.YthopfpplnclanaaGreatDoorW4
import Derived.Test.YthopfpplnclanaaGreatDoorW5
import Derived.Test.YthopfpplnclanaaGreatDoorW6
import Derived.Test.YthopfpplnclanaaGreatDoorW7
namespace Go.Proofs.YthopfpplnclanaaGreatDoor.Sx
attribute [local irreducible] OkQ Ok RetD
set_option linter.unusedSimpArgs false
set_option linter.unusedVariables false
theorem bIEo23:bodyI Tryz.prog 23=bodyF Tryz.f23:=by kernel_rfl
theorem nEEo23:isEsc Tryz.prog 23=false:=by kernel_rfl
theorem bIEo33:bodyI Tryz.prog 33=bodyF Tryz.f33:=by kernel_rfl
theorem nEEo33:isEsc Tryz.prog 33=false:=by kernel_rfl
theorem bIEo45:bodyI Tryz.prog 45=bodyF Tryz.f45:=by kernel_rfl
theorem nEEo45:isEsc Tryz.prog 45=false:=by kernel_rfl
open Nat renaming reduceEqDiff→Z0,reduceBEq→Z1,reduceAdd→Z2,reduceSub→Z3,reduceMul→Z4,reduceLeDiff→Z5
open Int renaming reduceEq→Z6,reduceLE→Z7,reduceLT→Z8,reduceNeg→Z9,reduceToNat→ZA,reduceAdd→ZB,reduceSub→ZC,reduceMul→ZD
set_option maxRecDepth 8000
set_option maxHeartbeats 40000000 in
theorem ea_O(file t:List UInt8)(few:Int)(x:RdS)(hz:t.length≤100000000000)(hx:EaP few t x)(hlt:x.1<(pcsV t).length)(hE:¬(pAt t x).1=(pAt t x).2.2.1)(hS:scanE (lineOf t (pAt t x))=0)(h2:(lAt t x).2.1=2)(hL:¬(lAt t x).2.2.1=levS)(hR:(lAt t x).2.2.1=reoS):eRound.1 file t few x:=by
 unfold eRound
 dsimp only
 obtain⟨i,out,lv,od,wn,tn⟩:=x
 obtain⟨hi,hol,hfo,hfw⟩:=hx
 dsimp only[pAt,lAt]at hi hol hfo hfw hlt hE hS h2 hL hR ⊢
 have hpl:(pcsV t).length≤t.length+1:=by
  have:=pcs_len t (t.length+1) (bomN t) (bom_len t)
  unfold pcsV
  omega
 have hout:List.take out.length out=out:=List.take_length
 obtain⟨hdr,q0,q1,q2⟩:=pcd_at hlt
 have cA:(pcsV t).getD i (0,0,0,())=(pcsV t).getD i pcdZ:=rfl
 generalize (pcsV t).getD i pcdZ=p at*
 have dl:decide ((i:Int)<((pcsV t).length:Int))=true:=decide_eq_true (by omega)
 rw[hdr,cdFold]at hfo
 have hw:wr .i64 ((i:Int)+1)=((i+1:Nat):Int):=wr_succ (by omega)
 have dE:decide (p.1=p.2.2.1)=false:=decide_eq_false hE
 rw[if_neg hE]at hfo
 have hl:List.take (p.2.1.toNat - p.1.toNat) (List.drop p.1.toNat t)=lineOf t p:=by
  unfold lineOf
  congr 1
  omega
 have hll:(lineOf t p).length≤t.length:=by unfold lineOf;simp;omega
 have dS:decide (scanE (lineOf t p)=0)=true:=decide_eq_true hS
 have hv:scanV ((i+1:Nat):Int) (lineOf t p)=partsV ((i+1:Nat):Int) (lineOf t p):=if_pos hS
 rw[if_neg (by simp[hS])]at hfo
 obtain⟨l,hld⟩:∃l,l=partsV ((i+1:Nat):Int) (lineOf t p):=⟨_,rfl⟩
 rw[←hld]at hfo hv h2 hL hR
 have hno:l.1=((i+1:Nat):Int):=by rw[hld];exact parts_no _ _
 have d2:decide (l.2.1=2)=true:=decide_eq_true h2
 have d1:decide (l.2.1=1)=false:=decide_eq_false (by omega)
 have hN:l.2.2.1=[82,101,111,114,100,101,114]:=hR
 refine run_ok (Cs:=[linPieces,linScan,wrdBlank,cNumber,cOne,wrdClasses,cCheck,cloneLv,cloneOd,lawTwin]) (stp:=[]) (inl:=[9,21,24,35,36,47,33,45,25]) (unr:=false) (cons_ok linPieces_ok (cons_ok linScan_ok (cons_ok wrdBlank_ok (cons_ok cNumber_ok (cons_ok cOne_ok (cons_ok wrdClasses_ok (cons_ok cCheck_ok (cons_ok cloneLv_ok (cons_ok cloneOd_ok (cons_ok lawTwin_ok nil_ok)))))))))) 200 _ _ _ _ ?_
 simp(maxSteps:=4000000)only[go_sem,reduceIte,reduceCtorEq,Z0,Z1,Z2,Z3,Z4,Z5,Z6,Z7,Z8,Z9,ZA,ZB,ZC,ZD,dl,cA,dE,hw,hl,dS,hv,d2,hN,oneN,oneP,oneM,oneF,linPieces,linScan,wrdBlank,cNumber,cOne,wrdClasses,cCheck,cloneLv,cloneOd,lawTwin]
 (repeat' first|apply And.intro|intro _|(show staB _ _=true;kernel_rfl)|(show dynB _ _=true;kernel_rfl)|(show dynP _ _ _=true;kernel_rfl))
 all_goals try first|contradiction|omega
 refine OkQ.opX rfl rfl ?_
 refine run_ok (Cs:=[linPieces,linScan,wrdBlank,cNumber,cOne,wrdClasses,cCheck,cloneLv,cloneOd,lawTwin]) (stp:=[]) (inl:=[9,21,24,35,36,47,33,45,25]) (unr:=false) (cons_ok linPieces_ok (cons_ok linScan_ok (cons_ok wrdBlank_ok (cons_ok cNumber_ok (cons_ok cOne_ok (cons_ok wrdClasses_ok (cons_ok cCheck_ok (cons_ok cloneLv_ok (cons_ok cloneOd_ok (cons_ok lawTwin_ok nil_ok)))))))))) 20 _ _ _ _ ?_
 simp(maxSteps:=4000000)only[go_sem,reduceIte,reduceCtorEq,Z0,Z1,Z2,Z3,Z4,Z5,Z6,Z7,Z8,Z9,ZA,ZB,ZC,ZD,oneN,oneP,oneM,oneF,linPieces,linScan,wrdBlank,cNumber,cOne,wrdClasses,cCheck,cloneLv,cloneOd,lawTwin]
 refine OkQ.fbNil rfl rfl (by kernel_rfl) rfl (by trivial) ?_
 refine run_ok (Cs:=[linPieces,linScan,wrdBlank,cNumber,cOne,wrdClasses,cCheck,cloneLv,cloneOd,lawTwin]) (stp:=[]) (inl:=[9,21,24,35,36,47,33,45,25]) (unr:=false) (cons_ok linPieces_ok (cons_ok linScan_ok (cons_ok wrdBlank_ok (cons_ok cNumber_ok (cons_ok cOne_ok (cons_ok wrdClasses_ok (cons_ok cCheck_ok (cons_ok cloneLv_ok (cons_ok cloneOd_ok (cons_ok lawTwin_ok nil_ok)))))))))) 20 _ _ _ _ ?_
 simp(maxSteps:=4000000)only[go_sem,reduceIte,reduceCtorEq,Z0,Z1,Z2,Z3,Z4,Z5,Z6,Z7,Z8,Z9,ZA,ZB,ZC,ZD,oneN,oneP,oneM,oneF,linPieces,linScan,wrdBlank,cNumber,cOne,wrdClasses,cCheck,cloneLv,cloneOd,lawTwin]
 refine OkQ.callFa rfl rfl rfl (by trivial) rfl (bIEo23.trans rfl) (by decide) ?_
 simp(maxSteps:=4000000)only[go_sem,reduceIte,reduceCtorEq,Z0,Z1,Z2,Z3,Z4,Z5,Z6,Z7,Z8,Z9,ZA,ZB,ZC,ZD,bIEo23,nEEo23,Tryz.f23,linPieces,linScan,wrdBlank,cNumber,cOne,wrdClasses,cCheck,cloneLv,cloneOd,lawTwin]
 by_cases hF:1<l.2.2.2.1.length
 ·have dF:decide (1<l.2.2.2.1.length)=true:=decide_eq_true hF
  have ho:oneL odL l=none:=if_pos hF
  have e1:casesV t=(282,((i+1:Nat):Int),out):=by
   have hs:stC (lv,od,wn,tn) l=(282,(lv,od,wn,tn),[]):=by unfold stC;rw[if_pos h2,if_neg hL,if_pos hR,ho]
   rw[←hfo,hs]
   rfl
  have hS:¬(282:Int)=0:=by decide
  refine run_ok (Cs:=[linPieces,linScan,wrdBlank,cNumber,cOne,wrdClasses,cCheck,cloneLv,cloneOd,lawTwin]) (stp:=[]) (inl:=[9,21,24,35,36,47,33,45,25]) (unr:=false) (cons_ok linPieces_ok (cons_ok linScan_ok (cons_ok wrdBlank_ok (cons_ok cNumber_ok (cons_ok cOne_ok (cons_ok wrdClasses_ok (cons_ok cCheck_ok (cons_ok cloneLv_ok (cons_ok cloneOd_ok (cons_ok lawTwin_ok nil_ok)))))))))) 200 _ _ _ _ ?_
  simp(maxSteps:=4000000)only[go_sem,reduceIte,reduceCtorEq,Z0,Z1,Z2,Z3,Z4,Z5,Z6,Z7,Z8,Z9,ZA,ZB,ZC,ZD,dF,hF,oneN,oneP,oneM,oneF,linPieces,linScan,wrdBlank,cNumber,cOne,wrdClasses,cCheck,cloneLv,cloneOd,lawTwin]
  simp(maxSteps:=4000000)only[go_sem,reduceIte,reduceCtorEq,Z0,Z1,Z2,Z3,Z4,Z5,Z6,Z7,Z8,Z9,ZA,ZB,ZC,ZD,RetI,oneN,oneP,oneM,oneF,linPieces,linScan,wrdBlank,cNumber,cOne,wrdClasses,cCheck,cloneLv,cloneOd,lawTwin]
  (repeat' first|apply And.intro|intro _|(show staB _ _=true;kernel_rfl)|(show dynB _ _=true;kernel_rfl)|(show dynP _ _ _=true;kernel_rfl))
  all_goals try first|contradiction|omega
  refine run_ok (Cs:=[linPieces,linScan,wrdBlank,cNumber,cOne,wrdClasses,cCheck,cloneLv,cloneOd,lawTwin]) (stp:=[]) (inl:=[9,21,24,35,36,47,33,45,25]) (unr:=false) (cons_ok linPieces_ok (cons_ok linScan_ok (cons_ok wrdBlank_ok (cons_ok cNumber_ok (cons_ok cOne_ok (cons_ok wrdClasses_ok (cons_ok cCheck_ok (cons_ok cloneLv_ok (cons_ok cloneOd_ok (cons_ok lawTwin_ok nil_ok)))))))))) 200 _ _ _ _ ?_
  simp(maxSteps:=4000000)only[go_sem,reduceIte,reduceCtorEq,Z0,Z1,Z2,Z3,Z4,Z5,Z6,Z7,Z8,Z9,ZA,ZB,ZC,ZD,oneN,oneP,oneM,oneF,linPieces,linScan,wrdBlank,cNumber,cOne,wrdClasses,cCheck,cloneLv,cloneOd,lawTwin]
  (repeat' first|apply And.intro|intro _|(show staB _ _=true;kernel_rfl)|(show dynB _ _=true;kernel_rfl)|(show dynP _ _ _=true;kernel_rfl))
  all_goals try first|contradiction|omega
  have hnO:¬eOk few t:=by
   unfold eOk
   rw[e1]
   rintro(q|q)
   ·exact hS q
   ·dsimp only at q
    rcases hfw with h|h<;>omega
  refine RetD.mk (fun h=>(hnO (show _∧eOk few t from h).2).elim) (fun _=>?_)
  refine RetM.of ?_
  show RetMC _ _ cEachX (file,t,few,()) _
  simp(maxSteps:=4000000)only[go_sem,reduceIte,reduceCtorEq,Z0,Z1,Z2,Z3,Z4,Z5,Z6,Z7,Z8,Z9,ZA,ZB,ZC,ZD,RetMC,mPick,cEachX,e1,oneN,linPieces,linScan,wrdBlank,cNumber,cOne,wrdClasses,cCheck,cloneLv,cloneOd,lawTwin]
  (repeat' first|apply And.intro|intro _|(show staB _ _=true;kernel_rfl)|(show dynB _ _=true;kernel_rfl)|(show dynP _ _ _=true;kernel_rfl))
  all_goals first|contradiction|omega|rfl|exact hout|fail
 have dF:decide (1<l.2.2.2.1.length)=false:=decide_eq_false hF
 obtain⟨w,hwd⟩:∃w,w=fld l 0:=⟨_,rfl⟩
 have hwf:fld (((i+1:Nat):Int),l.2.1,[82,101,111,114,100,101,114],l.2.2.2.1,l.2.2.2.2.1,()) 0=w:=hwd.symm
 have hwl:w.length≤t.length:=by
  rw[hwd]
  unfold fld
  rw[List.getD_eq_getElem?_getD]
  rcases Nat.lt_or_ge 0 l.2.2.2.1.length with h|h
  ·rw[List.getElem?_eq_getElem h]
   refine Nat.le_trans (parts_fld (no:=((i+1:Nat):Int)) (s:=lineOf t p) _ ?_) hll
   rw[←hld]
   exact List.getElem_mem h
  ·rw[List.getElem?_eq_none h];simp
 have hoL:oneL odL l=odL w:=by rw[hwd];exact if_neg hF
 refine run_ok (Cs:=[linPieces,linScan,wrdBlank,cNumber,cOne,wrdClasses,cCheck,cloneLv,cloneOd,lawTwin]) (stp:=[]) (inl:=[9,21,24,35,36,47,33,45,25]) (unr:=false) (cons_ok linPieces_ok (cons_ok linScan_ok (cons_ok wrdBlank_ok (cons_ok cNumber_ok (cons_ok cOne_ok (cons_ok wrdClasses_ok (cons_ok cCheck_ok (cons_ok cloneLv_ok (cons_ok cloneOd_ok (cons_ok lawTwin_ok nil_ok)))))))))) 100 _ _ _ _ ?_
 simp(maxSteps:=4000000)only[go_sem,reduceIte,reduceCtorEq,Z0,Z1,Z2,Z3,Z4,Z5,Z6,Z7,Z8,Z9,ZA,ZB,ZC,ZD,dF,hF,hwf,bIEo33,nEEo33,Tryz.f33,bIEo45,nEEo45,Tryz.f45,oneN,oneP,oneM,oneF,linPieces,linScan,wrdBlank,cNumber,cOne,wrdClasses,cCheck,cloneLv,cloneOd,lawTwin]
 (repeat' first|apply And.intro|intro _|(show staB _ _=true;kernel_rfl)|(show dynB _ _=true;kernel_rfl)|(show dynP _ _ _=true;kernel_rfl))
 all_goals try first|contradiction|omega
 refine OkQ.virt 8 (.int .i64) ?_
 refine OkQ.loopF (α:=Nat×List Int) 32 [9,10,11,12,13,14,15,16,17,18,21,22,23,24,25,26,27,28,29,30,31,32,33] (fun _=>[]) [2,3,4,5,6,8,9,10,11,12,13,14,15,16,17,18,19,20,21,22,23,24,25,26,27,28,29,30,31,32,33,34,35,36,37,38,39,40,41,42,43] (fun x=>[(3,.s (.int .i64 (wsTo w x.1).1))]) (fun x=>[(30,.box 35 [.sub 34 0 x.2.length]),(33,.it w (walkP w x.1)),(34,.arr false 8 (.int .i64) x.2)])
  (fun x=>x.1≤w.length∧cntV w=cntFrom w (w.length+1 - x.1) x.1∧mapO odW ((wsTo w x.1).2.map fun a=>a.2.1)=some x.2) (fun x=>w.length - walkP w x.1) (0,[]) rfl ⟨Nat.zero_le _,rfl,rfl⟩ ?_ fun x hx=>?_
 ·simp(maxSteps:=4000000)only[go_sem,reduceIte,reduceCtorEq,Z0,Z1,Z2,Z3,Z4,Z5,Z6,Z7,Z8,Z9,ZA,ZB,ZC,ZD,wsTo,linPieces,linScan,wrdBlank,cNumber,cOne,wrdClasses,cCheck,cloneLv,cloneOd,lawTwin]
  all_goals first|rfl|exact⟨rfl,rfl⟩|exact⟨⟨rfl,rfl⟩,rfl⟩|exact⟨rfl,rfl,rfl⟩|fail
 obtain⟨k,o⟩:=x
 obtain⟨hk,hc,hm⟩:=hx
 dsimp only at hk hc hm ⊢
 have hwk0:=walkP_le w k
 have hd:=decW w (walkP w k)
 have hcr:((decV w (walkP w k)).1:Int)=chrAt w k:=rfl
 have hfr:=ws_from w k
 have hkc:k≤cntV w:=by rw[hc];exact cnt_from_le _ _ _
 have hwl':=walk_in w k hkc
 have hcl:cntV w≤w.length:=cnt_len w
 have hwL:=ws_len w k
 have hol2:o.length=(wsTo w k).2.length:=by rw[mapO_len hm,List.length_map]
 have hot:List.take o.length o=o:=List.take_length
 refine run_ok (Cs:=[linPieces,linScan,wrdBlank,cNumber,cOne,wrdClasses,cCheck,cloneLv,cloneOd,lawTwin]) (stp:=[]) (inl:=[9,21,24,35,36,47,33,45,25]) (unr:=false) (cons_ok linPieces_ok (cons_ok linScan_ok (cons_ok wrdBlank_ok (cons_ok cNumber_ok (cons_ok cOne_ok (cons_ok wrdClasses_ok (cons_ok cCheck_ok (cons_ok cloneLv_ok (cons_ok cloneOd_ok (cons_ok lawTwin_ok nil_ok)))))))))) 14 _ _ _ _ ?_
 simp(maxSteps:=4000000)only[go_sem,reduceIte,reduceCtorEq,Z0,Z1,Z2,Z3,Z4,Z5,Z6,Z7,Z8,Z9,ZA,ZB,ZC,ZD,hcr,oneN,oneP,oneM,oneF,linPieces,linScan,wrdBlank,cNumber,cOne,wrdClasses,cCheck,cloneLv,cloneOd,lawTwin]
 refine⟨fun hwl2=>?_,fun hwl2=>?_⟩
 ·have hc2:=cnt_step hk hc hwl2
  have hk1:k+1≤cntV w:=by rw[hc2];exact cnt_from_le _ _ _
  have hwk:walkP w (k+1)=walkP w k+(decV w (walkP w k)).2:=rfl
  cases hB:blankB (chrAt w k)
  ·rcases hfr with hf|hf
   ·have e:wsTo w (k+1)=((walkP w k:Int),(wsTo w k).2):=by rw[wsTo,hB,if_neg (by simp),if_pos (by omega)]
    have d1:decide ((-1:Int)<0)=true:=by decide
    refine run_ok (Cs:=[linPieces,linScan,wrdBlank,cNumber,cOne,wrdClasses,cCheck,cloneLv,cloneOd,lawTwin]) (stp:=[]) (inl:=[9,21,24,35,36,47,33,45,25]) (unr:=false) (cons_ok linPieces_ok (cons_ok linScan_ok (cons_ok wrdBlank_ok (cons_ok cNumber_ok (cons_ok cOne_ok (cons_ok wrdClasses_ok (cons_ok cCheck_ok (cons_ok cloneLv_ok (cons_ok cloneOd_ok (cons_ok lawTwin_ok nil_ok)))))))))) 60 _ _ _ _ ?_
    simp(maxSteps:=4000000)only[go_sem,reduceIte,reduceCtorEq,Z0,Z1,Z2,Z3,Z4,Z5,Z6,Z7,Z8,Z9,ZA,ZB,ZC,ZD,hB,hcr,hf,d1,oneN,oneP,oneM,oneF,linPieces,linScan,wrdBlank,cNumber,cOne,wrdClasses,cCheck,cloneLv,cloneOd,lawTwin]
    (repeat' first|apply And.intro|intro _|(show staB _ _=true;kernel_rfl)|(show dynB _ _=true;kernel_rfl)|(show dynP _ _ _=true;kernel_rfl))
    all_goals try first|contradiction|omega
    refine⟨(k+1,o),⟨by dsimp only;omega,hc2,by rw[e];exact hm⟩,by dsimp only;omega,?_⟩
    simp(maxSteps:=4000000)only[go_sem,reduceIte,reduceCtorEq,Z0,Z1,Z2,Z3,Z4,Z5,Z6,Z7,Z8,Z9,ZA,ZB,ZC,ZD,e,hwk,linPieces,linScan,wrdBlank,cNumber,cOne,wrdClasses,cCheck,cloneLv,cloneOd,lawTwin]
    all_goals first|rfl|exact⟨rfl,rfl⟩|exact⟨⟨rfl,rfl⟩,rfl⟩|exact⟨rfl,rfl,rfl⟩|fail
   ·have e:wsTo w (k+1)=wsTo w k:=by rw[wsTo,hB,if_neg (by simp),if_neg (by omega)]
    have d1:decide ((wsTo w k).1<0)=false:=decide_eq_false (by omega)
    refine run_ok (Cs:=[linPieces,linScan,wrdBlank,cNumber,cOne,wrdClasses,cCheck,cloneLv,cloneOd,lawTwin]) (stp:=[]) (inl:=[9,21,24,35,36,47,33,45,25]) (unr:=false) (cons_ok linPieces_ok (cons_ok linScan_ok (cons_ok wrdBlank_ok (cons_ok cNumber_ok (cons_ok cOne_ok (cons_ok wrdClasses_ok (cons_ok cCheck_ok (cons_ok cloneLv_ok (cons_ok cloneOd_ok (cons_ok lawTwin_ok nil_ok)))))))))) 60 _ _ _ _ ?_
    simp(maxSteps:=4000000)only[go_sem,reduceIte,reduceCtorEq,Z0,Z1,Z2,Z3,Z4,Z5,Z6,Z7,Z8,Z9,ZA,ZB,ZC,ZD,hB,hcr,d1,oneN,oneP,oneM,oneF,linPieces,linScan,wrdBlank,cNumber,cOne,wrdClasses,cCheck,cloneLv,cloneOd,lawTwin]
    (repeat' first|apply And.intro|intro _|(show staB _ _=true;kernel_rfl)|(show dynB _ _=true;kernel_rfl)|(show dynP _ _ _=true;kernel_rfl))
    all_goals try first|contradiction|omega
    refine⟨(k+1,o),⟨by dsimp only;omega,hc2,by rw[e];exact hm⟩,by dsimp only;omega,?_⟩
    simp(maxSteps:=4000000)only[go_sem,reduceIte,reduceCtorEq,Z0,Z1,Z2,Z3,Z4,Z5,Z6,Z7,Z8,Z9,ZA,ZB,ZC,ZD,e,hwk,linPieces,linScan,wrdBlank,cNumber,cOne,wrdClasses,cCheck,cloneLv,cloneOd,lawTwin]
    all_goals first|rfl|exact⟨rfl,rfl⟩|exact⟨⟨rfl,rfl⟩,rfl⟩|exact⟨rfl,rfl,rfl⟩|fail
  ·rcases hfr with hf|hf
   ·have e:wsTo w (k+1)=wsTo w k:=by rw[wsTo,hB,if_pos rfl,if_neg (by omega)]
    have d0:decide ((0:Int)≤ -1)=false:=by decide
    refine run_ok (Cs:=[linPieces,linScan,wrdBlank,cNumber,cOne,wrdClasses,cCheck,cloneLv,cloneOd,lawTwin]) (stp:=[]) (inl:=[9,21,24,35,36,47,33,45,25]) (unr:=false) (cons_ok linPieces_ok (cons_ok linScan_ok (cons_ok wrdBlank_ok (cons_ok cNumber_ok (cons_ok cOne_ok (cons_ok wrdClasses_ok (cons_ok cCheck_ok (cons_ok cloneLv_ok (cons_ok cloneOd_ok (cons_ok lawTwin_ok nil_ok)))))))))) 60 _ _ _ _ ?_
    simp(maxSteps:=4000000)only[go_sem,reduceIte,reduceCtorEq,Z0,Z1,Z2,Z3,Z4,Z5,Z6,Z7,Z8,Z9,ZA,ZB,ZC,ZD,hB,hcr,hf,d0,oneN,oneP,oneM,oneF,linPieces,linScan,wrdBlank,cNumber,cOne,wrdClasses,cCheck,cloneLv,cloneOd,lawTwin]
    (repeat' first|apply And.intro|intro _|(show staB _ _=true;kernel_rfl)|(show dynB _ _=true;kernel_rfl)|(show dynP _ _ _=true;kernel_rfl))
    all_goals try first|contradiction|omega
    refine⟨(k+1,o),⟨by dsimp only;omega,hc2,by rw[e];exact hm⟩,by dsimp only;omega,?_⟩
    simp(maxSteps:=4000000)only[go_sem,reduceIte,reduceCtorEq,Z0,Z1,Z2,Z3,Z4,Z5,Z6,Z7,Z8,Z9,ZA,ZB,ZC,ZD,e,hf,hwk,linPieces,linScan,wrdBlank,cNumber,cOne,wrdClasses,cCheck,cloneLv,cloneOd,lawTwin]
    all_goals first|rfl|exact⟨rfl,rfl⟩|exact⟨⟨rfl,rfl⟩,rfl⟩|exact⟨rfl,rfl,rfl⟩|fail
   ·have d0:decide ((0:Int)≤(wsTo w k).1)=true:=decide_eq_true hf.1
    obtain⟨W,hW⟩:∃W,W=(w.drop (wsTo w k).1.toNat).take (walkP w k - (wsTo w k).1.toNat):=⟨_,rfl⟩
    have e:wsTo w (k+1)=(-1,(wsTo w k).2++[((wsTo w k).1,W,())]):=by rw[wsTo,hB,if_pos rfl,if_pos hf.1,hW]
    have hWl:W.length≤w.length:=by rw[hW];simp;omega
    have hnI:=num_in W 1048576 (by decide)
    by_cases hN0:numV W 1048576<0
    ·have dN:decide (0≤numV W 1048576)=false:=decide_eq_false (by omega)
     have hf2:odW W=none:=by unfold odW;rw[if_pos hN0]
     have ho:oneL odL l=none:=by
      obtain⟨r,hr⟩:=words_pre hk1
      rw[hoL]
      unfold odL wordsT
      rw[hr,e,List.append_assoc,List.map_append]
      exact mapO_bad hm hf2
     have e1:casesV t=(282,((i+1:Nat):Int),out):=by
      have hs:stC (lv,od,wn,tn) l=(282,(lv,od,wn,tn),[]):=by unfold stC;rw[if_pos h2,if_neg hL,if_pos hR,ho]
      rw[←hfo,hs]
      rfl
     have hS:¬(282:Int)=0:=by decide
     refine run_ok (Cs:=[linPieces,linScan,wrdBlank,cNumber,cOne,wrdClasses,cCheck,cloneLv,cloneOd,lawTwin]) (stp:=[]) (inl:=[9,21,24,35,36,47,33,45,25]) (unr:=false) (cons_ok linPieces_ok (cons_ok linScan_ok (cons_ok wrdBlank_ok (cons_ok cNumber_ok (cons_ok cOne_ok (cons_ok wrdClasses_ok (cons_ok cCheck_ok (cons_ok cloneLv_ok (cons_ok cloneOd_ok (cons_ok lawTwin_ok nil_ok)))))))))) 100 _ _ _ _ ?_
     simp(maxSteps:=4000000)only[go_sem,reduceIte,reduceCtorEq,Z0,Z1,Z2,Z3,Z4,Z5,Z6,Z7,Z8,Z9,ZA,ZB,ZC,ZD,hB,hcr,d0,←hW,hN0,dN,oneN,oneP,oneM,oneF,linPieces,linScan,wrdBlank,cNumber,cOne,wrdClasses,cCheck,cloneLv,cloneOd,lawTwin]
     simp(maxSteps:=4000000)only[go_sem,reduceIte,reduceCtorEq,Z0,Z1,Z2,Z3,Z4,Z5,Z6,Z7,Z8,Z9,ZA,ZB,ZC,ZD,RetI,oneN,oneP,oneM,oneF,linPieces,linScan,wrdBlank,cNumber,cOne,wrdClasses,cCheck,cloneLv,cloneOd,lawTwin]
     (repeat' first|apply And.intro|intro _|(show staB _ _=true;kernel_rfl)|(show dynB _ _=true;kernel_rfl)|(show dynP _ _ _=true;kernel_rfl))
     all_goals try first|contradiction|omega
     refine run_ok (Cs:=[linPieces,linScan,wrdBlank,cNumber,cOne,wrdClasses,cCheck,cloneLv,cloneOd,lawTwin]) (stp:=[]) (inl:=[9,21,24,35,36,47,33,45,25]) (unr:=false) (cons_ok linPieces_ok (cons_ok linScan_ok (cons_ok wrdBlank_ok (cons_ok cNumber_ok (cons_ok cOne_ok (cons_ok wrdClasses_ok (cons_ok cCheck_ok (cons_ok cloneLv_ok (cons_ok cloneOd_ok (cons_ok lawTwin_ok nil_ok)))))))))) 200 _ _ _ _ ?_
     simp(maxSteps:=4000000)only[go_sem,reduceIte,reduceCtorEq,Z0,Z1,Z2,Z3,Z4,Z5,Z6,Z7,Z8,Z9,ZA,ZB,ZC,ZD,oneN,oneP,oneM,oneF,linPieces,linScan,wrdBlank,cNumber,cOne,wrdClasses,cCheck,cloneLv,cloneOd,lawTwin]
     (repeat' first|apply And.intro|intro _|(show staB _ _=true;kernel_rfl)|(show dynB _ _=true;kernel_rfl)|(show dynP _ _ _=true;kernel_rfl))
     all_goals try first|contradiction|omega
     have hnO:¬eOk few t:=by
      unfold eOk
      rw[e1]
      rintro(q|q)
      ·exact hS q
      ·dsimp only at q
       rcases hfw with h|h<;>omega
     refine RetD.mk (fun h=>(hnO (show _∧eOk few t from h).2).elim) (fun _=>?_)
     refine RetM.of ?_
     show RetMC _ _ cEachX (file,t,few,()) _
     simp(maxSteps:=4000000)only[go_sem,reduceIte,reduceCtorEq,Z0,Z1,Z2,Z3,Z4,Z5,Z6,Z7,Z8,Z9,ZA,ZB,ZC,ZD,RetMC,mPick,cEachX,e1,oneN,linPieces,linScan,wrdBlank,cNumber,cOne,wrdClasses,cCheck,cloneLv,cloneOd,lawTwin]
     (repeat' first|apply And.intro|intro _|(show staB _ _=true;kernel_rfl)|(show dynB _ _=true;kernel_rfl)|(show dynP _ _ _=true;kernel_rfl))
     all_goals first|contradiction|omega|rfl|exact hout|fail
    have dN:decide (0≤numV W 1048576)=true:=decide_eq_true (by omega)
    have hf2:odW W=some (numV W 1048576):=by unfold odW;rw[if_neg hN0]
    have hm2:mapO odW ((wsTo w (k+1)).2.map fun a=>a.2.1)=some (o++[numV W 1048576]):=by
     rw[e,List.map_append]
     exact mapO_good hm hf2
    refine run_ok (Cs:=[linPieces,linScan,wrdBlank,cNumber,cOne,wrdClasses,cCheck,cloneLv,cloneOd,lawTwin]) (stp:=[]) (inl:=[9,21,24,35,36,47,33,45,25]) (unr:=false) (cons_ok linPieces_ok (cons_ok linScan_ok (cons_ok wrdBlank_ok (cons_ok cNumber_ok (cons_ok cOne_ok (cons_ok wrdClasses_ok (cons_ok cCheck_ok (cons_ok cloneLv_ok (cons_ok cloneOd_ok (cons_ok lawTwin_ok nil_ok)))))))))) 100 _ _ _ _ ?_
    simp(maxSteps:=4000000)only[go_sem,reduceIte,reduceCtorEq,Z0,Z1,Z2,Z3,Z4,Z5,Z6,Z7,Z8,Z9,ZA,ZB,ZC,ZD,hB,hcr,d0,←hW,hN0,dN,oneN,oneP,oneM,oneF,linPieces,linScan,wrdBlank,cNumber,cOne,wrdClasses,cCheck,cloneLv,cloneOd,lawTwin]
    (repeat' first|apply And.intro|intro _|(show staB _ _=true;kernel_rfl)|(show dynB _ _=true;kernel_rfl)|(show dynP _ _ _=true;kernel_rfl))
    all_goals try first|contradiction|omega
    refine⟨(k+1,o++[numV W 1048576]),⟨by dsimp only;omega,hc2,hm2⟩,by dsimp only;omega,?_⟩
    simp(maxSteps:=4000000)only[go_sem,reduceIte,reduceCtorEq,Z0,Z1,Z2,Z3,Z4,Z5,Z6,Z7,Z8,Z9,ZA,ZB,ZC,ZD,e,hwk,linPieces,linScan,wrdBlank,cNumber,cOne,wrdClasses,cCheck,cloneLv,cloneOd,lawTwin]
    all_goals first|rfl|exact⟨rfl,rfl⟩|exact⟨⟨rfl,rfl⟩,rfl⟩|exact⟨rfl,rfl,rfl⟩|fail
 ·have hke:k=cntV w:=cnt_end hk hc hwl2
  refine⟨fun h0=>?_,fun h0=>?_⟩
  rotate_left
  ·have hv2:wordsV w=(wsTo w k).2:=by unfold wordsV;rw[←hke,if_neg (by omega)]
   have ho:oneL odL l=some o:=by
    rw[hoL]
    unfold odL wordsT
    rw[hv2]
    exact hm
   have hfo':cdFold t (i+1+1) ((pcsV t).drop (i+1)) (lv,o,wn,true) out=casesV t:=by
    have hs:stC (lv,od,wn,tn) l=(0,(lv,o,wn,true),[]):=by unfold stC;rw[if_pos h2,if_neg hL,if_pos hR,ho]
    rw[←hfo,hs,if_neg (by simp),List.append_nil]
   refine run_ok (Cs:=[linPieces,linScan,wrdBlank,cNumber,cOne,wrdClasses,cCheck,cloneLv,cloneOd,lawTwin]) (stp:=[]) (inl:=[9,21,24,35,36,47,33,45,25]) (unr:=false) (cons_ok linPieces_ok (cons_ok linScan_ok (cons_ok wrdBlank_ok (cons_ok cNumber_ok (cons_ok cOne_ok (cons_ok wrdClasses_ok (cons_ok cCheck_ok (cons_ok cloneLv_ok (cons_ok cloneOd_ok (cons_ok lawTwin_ok nil_ok)))))))))) 60 _ _ _ _ ?_
   simp(maxSteps:=4000000)only[go_sem,reduceIte,reduceCtorEq,Z0,Z1,Z2,Z3,Z4,Z5,Z6,Z7,Z8,Z9,ZA,ZB,ZC,ZD,hot,oneN,oneP,oneM,oneF,linPieces,linScan,wrdBlank,cNumber,cOne,wrdClasses,cCheck,cloneLv,cloneOd,lawTwin]
   simp(maxSteps:=4000000)only[go_sem,reduceIte,reduceCtorEq,Z0,Z1,Z2,Z3,Z4,Z5,Z6,Z7,Z8,Z9,ZA,ZB,ZC,ZD,RetI,hot,oneN,oneP,oneM,oneF,linPieces,linScan,wrdBlank,cNumber,cOne,wrdClasses,cCheck,cloneLv,cloneOd,lawTwin]
   (repeat' first|apply And.intro|intro _|(show staB _ _=true;kernel_rfl)|(show dynB _ _=true;kernel_rfl)|(show dynP _ _ _=true;kernel_rfl))
   all_goals try first|contradiction|omega
   refine run_ok (Cs:=[linPieces,linScan,wrdBlank,cNumber,cOne,wrdClasses,cCheck,cloneLv,cloneOd,lawTwin]) (stp:=[]) (inl:=[9,21,24,35,36,47,33,45,25]) (unr:=false) (cons_ok linPieces_ok (cons_ok linScan_ok (cons_ok wrdBlank_ok (cons_ok cNumber_ok (cons_ok cOne_ok (cons_ok wrdClasses_ok (cons_ok cCheck_ok (cons_ok cloneLv_ok (cons_ok cloneOd_ok (cons_ok lawTwin_ok nil_ok)))))))))) 200 _ _ _ _ ?_
   simp(maxSteps:=4000000)only[go_sem,reduceIte,reduceCtorEq,Z0,Z1,Z2,Z3,Z4,Z5,Z6,Z7,Z8,Z9,ZA,ZB,ZC,ZD,hot,d1,oneN,oneP,oneM,oneF,linPieces,linScan,wrdBlank,cNumber,cOne,wrdClasses,cCheck,cloneLv,cloneOd,lawTwin]
   (repeat' first|apply And.intro|intro _|(show staB _ _=true;kernel_rfl)|(show dynB _ _=true;kernel_rfl)|(show dynP _ _ _=true;kernel_rfl))
   all_goals try first|contradiction|omega
   refine backK.mk (i+1,out,(lv,o,wn,true)) ⟨by dsimp only;omega,by dsimp only;omega,hfo',hfw⟩ (by dsimp only;omega) ?_
   simp(maxSteps:=4000000)only[go_sem,reduceIte,reduceCtorEq,Z0,Z1,Z2,Z3,Z4,Z5,Z6,Z7,Z8,Z9,ZA,ZB,ZC,ZD,hw,linPieces,linScan,wrdBlank,cNumber,cOne,wrdClasses,cCheck,cloneLv,cloneOd,lawTwin]
   all_goals first|rfl|exact hw|exact⟨rfl,rfl⟩|exact⟨⟨rfl,rfl⟩,rfl⟩|exact⟨rfl,rfl,rfl⟩|fail
  ·obtain⟨W,hW⟩:∃W,W=w.drop (wsTo w k).1.toNat:=⟨_,rfl⟩
   have ht:List.take (w.length - (wsTo w k).1.toNat) (List.drop (wsTo w k).1.toNat w)=W:=by rw[hW];exact List.take_of_length_le (by simp)
   have hv2:wordsV w=(wsTo w k).2++[((wsTo w k).1,W,())]:=by unfold wordsV;rw[←hke,if_pos h0,hW]
   have hWl:W.length≤w.length:=by rw[hW];simp
   have hnI:=num_in W 1048576 (by decide)
   by_cases hN0:numV W 1048576<0
   ·have dN:decide (0≤numV W 1048576)=false:=decide_eq_false (by omega)
    have hf2:odW W=none:=by unfold odW;rw[if_pos hN0]
    have ho:oneL odL l=none:=by
     rw[hoL]
     unfold odL wordsT
     rw[hv2,List.map_append]
     exact mapO_bad hm hf2
    have e1:casesV t=(282,((i+1:Nat):Int),out):=by
     have hs:stC (lv,od,wn,tn) l=(282,(lv,od,wn,tn),[]):=by unfold stC;rw[if_pos h2,if_neg hL,if_pos hR,ho]
     rw[←hfo,hs]
     rfl
    have hS:¬(282:Int)=0:=by decide
    refine run_ok (Cs:=[linPieces,linScan,wrdBlank,cNumber,cOne,wrdClasses,cCheck,cloneLv,cloneOd,lawTwin]) (stp:=[]) (inl:=[9,21,24,35,36,47,33,45,25]) (unr:=false) (cons_ok linPieces_ok (cons_ok linScan_ok (cons_ok wrdBlank_ok (cons_ok cNumber_ok (cons_ok cOne_ok (cons_ok wrdClasses_ok (cons_ok cCheck_ok (cons_ok cloneLv_ok (cons_ok cloneOd_ok (cons_ok lawTwin_ok nil_ok)))))))))) 100 _ _ _ _ ?_
    simp(maxSteps:=4000000)only[go_sem,reduceIte,reduceCtorEq,Z0,Z1,Z2,Z3,Z4,Z5,Z6,Z7,Z8,Z9,ZA,ZB,ZC,ZD,ht,hN0,dN,oneN,oneP,oneM,oneF,linPieces,linScan,wrdBlank,cNumber,cOne,wrdClasses,cCheck,cloneLv,cloneOd,lawTwin]
    simp(maxSteps:=4000000)only[go_sem,reduceIte,reduceCtorEq,Z0,Z1,Z2,Z3,Z4,Z5,Z6,Z7,Z8,Z9,ZA,ZB,ZC,ZD,RetI,oneN,oneP,oneM,oneF,linPieces,linScan,wrdBlank,cNumber,cOne,wrdClasses,cCheck,cloneLv,cloneOd,lawTwin]
    (repeat' first|apply And.intro|intro _|(show staB _ _=true;kernel_rfl)|(show dynB _ _=true;kernel_rfl)|(show dynP _ _ _=true;kernel_rfl))
    all_goals try first|contradiction|omega
    refine run_ok (Cs:=[linPieces,linScan,wrdBlank,cNumber,cOne,wrdClasses,cCheck,cloneLv,cloneOd,lawTwin]) (stp:=[]) (inl:=[9,21,24,35,36,47,33,45,25]) (unr:=false) (cons_ok linPieces_ok (cons_ok linScan_ok (cons_ok wrdBlank_ok (cons_ok cNumber_ok (cons_ok cOne_ok (cons_ok wrdClasses_ok (cons_ok cCheck_ok (cons_ok cloneLv_ok (cons_ok cloneOd_ok (cons_ok lawTwin_ok nil_ok)))))))))) 200 _ _ _ _ ?_
    simp(maxSteps:=4000000)only[go_sem,reduceIte,reduceCtorEq,Z0,Z1,Z2,Z3,Z4,Z5,Z6,Z7,Z8,Z9,ZA,ZB,ZC,ZD,oneN,oneP,oneM,oneF,linPieces,linScan,wrdBlank,cNumber,cOne,wrdClasses,cCheck,cloneLv,cloneOd,lawTwin]
    (repeat' first|apply And.intro|intro _|(show staB _ _=true;kernel_rfl)|(show dynB _ _=true;kernel_rfl)|(show dynP _ _ _=true;kernel_rfl))
    all_goals try first|contradiction|omega
    have hnO:¬eOk few t:=by
     unfold eOk
     rw[e1]
     rintro(q|q)
     ·exact hS q
     ·dsimp only at q
      rcases hfw with h|h<;>omega
    refine RetD.mk (fun h=>(hnO (show _∧eOk few t from h).2).elim) (fun _=>?_)
    refine RetM.of ?_
    show RetMC _ _ cEachX (file,t,few,()) _
    simp(maxSteps:=4000000)only[go_sem,reduceIte,reduceCtorEq,Z0,Z1,Z2,Z3,Z4,Z5,Z6,Z7,Z8,Z9,ZA,ZB,ZC,ZD,RetMC,mPick,cEachX,e1,oneN,linPieces,linScan,wrdBlank,cNumber,cOne,wrdClasses,cCheck,cloneLv,cloneOd,lawTwin]
    (repeat' first|apply And.intro|intro _|(show staB _ _=true;kernel_rfl)|(show dynB _ _=true;kernel_rfl)|(show dynP _ _ _=true;kernel_rfl))
    all_goals first|contradiction|omega|rfl|exact hout|fail
   have dN:decide (0≤numV W 1048576)=true:=decide_eq_true (by omega)
   have hf2:odW W=some (numV W 1048576):=by unfold odW;rw[if_neg hN0]
   have ho:oneL odL l=some (o++[numV W 1048576]):=by
    rw[hoL]
    unfold odL wordsT
    rw[hv2,List.map_append]
    exact mapO_good hm hf2
   have hot2:List.take (o.length+1) (o++[numV W 1048576])=o++[numV W 1048576]:=List.take_of_length_le (by simp)
   have hfo':cdFold t (i+1+1) ((pcsV t).drop (i+1)) (lv,o++[numV W 1048576],wn,true) out=casesV t:=by
    have hs:stC (lv,od,wn,tn) l=(0,(lv,o++[numV W 1048576],wn,true),[]):=by unfold stC;rw[if_pos h2,if_neg hL,if_pos hR,ho]
    rw[←hfo,hs,if_neg (by simp),List.append_nil]
   refine run_ok (Cs:=[linPieces,linScan,wrdBlank,cNumber,cOne,wrdClasses,cCheck,cloneLv,cloneOd,lawTwin]) (stp:=[]) (inl:=[9,21,24,35,36,47,33,45,25]) (unr:=false) (cons_ok linPieces_ok (cons_ok linScan_ok (cons_ok wrdBlank_ok (cons_ok cNumber_ok (cons_ok cOne_ok (cons_ok wrdClasses_ok (cons_ok cCheck_ok (cons_ok cloneLv_ok (cons_ok cloneOd_ok (cons_ok lawTwin_ok nil_ok)))))))))) 100 _ _ _ _ ?_
   simp(maxSteps:=4000000)only[go_sem,reduceIte,reduceCtorEq,Z0,Z1,Z2,Z3,Z4,Z5,Z6,Z7,Z8,Z9,ZA,ZB,ZC,ZD,ht,hot,hot2,hN0,dN,oneN,oneP,oneM,oneF,linPieces,linScan,wrdBlank,cNumber,cOne,wrdClasses,cCheck,cloneLv,cloneOd,lawTwin]
   simp(maxSteps:=4000000)only[go_sem,reduceIte,reduceCtorEq,Z0,Z1,Z2,Z3,Z4,Z5,Z6,Z7,Z8,Z9,ZA,ZB,ZC,ZD,RetI,hot2,oneN,oneP,oneM,oneF,linPieces,linScan,wrdBlank,cNumber,cOne,wrdClasses,cCheck,cloneLv,cloneOd,lawTwin]
   (repeat' first|apply And.intro|intro _|(show staB _ _=true;kernel_rfl)|(show dynB _ _=true;kernel_rfl)|(show dynP _ _ _=true;kernel_rfl))
   all_goals try first|contradiction|omega
   refine run_ok (Cs:=[linPieces,linScan,wrdBlank,cNumber,cOne,wrdClasses,cCheck,cloneLv,cloneOd,lawTwin]) (stp:=[]) (inl:=[9,21,24,35,36,47,33,45,25]) (unr:=false) (cons_ok linPieces_ok (cons_ok linScan_ok (cons_ok wrdBlank_ok (cons_ok cNumber_ok (cons_ok cOne_ok (cons_ok wrdClasses_ok (cons_ok cCheck_ok (cons_ok cloneLv_ok (cons_ok cloneOd_ok (cons_ok lawTwin_ok nil_ok)))))))))) 200 _ _ _ _ ?_
   simp(maxSteps:=4000000)only[go_sem,reduceIte,reduceCtorEq,Z0,Z1,Z2,Z3,Z4,Z5,Z6,Z7,Z8,Z9,ZA,ZB,ZC,ZD,hot2,d1,oneN,oneP,oneM,oneF,linPieces,linScan,wrdBlank,cNumber,cOne,wrdClasses,cCheck,cloneLv,cloneOd,lawTwin]
   (repeat' first|apply And.intro|intro _|(show staB _ _=true;kernel_rfl)|(show dynB _ _=true;kernel_rfl)|(show dynP _ _ _=true;kernel_rfl))
   all_goals try first|contradiction|omega
   refine backK.mk (i+1,out,(lv,o++[numV W 1048576],wn,true)) ⟨by dsimp only;omega,by dsimp only;omega,hfo',hfw⟩ (by dsimp only;omega) ?_
   simp(maxSteps:=4000000)only[go_sem,reduceIte,reduceCtorEq,Z0,Z1,Z2,Z3,Z4,Z5,Z6,Z7,Z8,Z9,ZA,ZB,ZC,ZD,hw,linPieces,linScan,wrdBlank,cNumber,cOne,wrdClasses,cCheck,cloneLv,cloneOd,lawTwin]
   all_goals first|rfl|exact hw|exact⟨rfl,rfl⟩|exact⟨⟨rfl,rfl⟩,rfl⟩|exact⟨rfl,rfl,rfl⟩|fail
end Go.Proofs.YthopfpplnclanaaGreatDoor.Sx
