/- A part of the proof. -/
import Derived.Test.YthopfpplnclanaaGreatDoorW8
import Derived.Test.YthopfpplnclanaaGreatDoorW0
import Derived.Test.YthopfpplnclanaaGreatDoorW1
import Derived.Test.YthopfpplnclanaaGreatDoorW2
import Derived.Test.YthopfpplnclanaaGreatDoorW3
import Derived.Test.YthopfpplnclanaaGreatDoorW4
import Derived.Test.YthopfpplnclanaaGreatDoorW5
import Derived.Test.YthopfpplnclanaaGreatDoorW6
import Derived.Test.YthopfpplnclanaaGreatDoorW7
namespace Go.Proofs.YthopfpplnclanaaGreatDoor.Sx
attribute [local irreducible] OkQ Ok RetD
set_option linter.unusedSimpArgs false
set_option linter.unusedVariables false
theorem bIEu25:bodyI Tryz.prog 25=bodyF Tryz.f25:=by kernel_rfl
theorem nEEu25:isEsc Tryz.prog 25=false:=by kernel_rfl
theorem bIEu9:bodyI Tryz.prog 9=bodyF Tryz.f9:=by kernel_rfl
theorem nEEu9:isEsc Tryz.prog 9=false:=by kernel_rfl
theorem bIEu21:bodyI Tryz.prog 21=bodyF Tryz.f21:=by kernel_rfl
theorem nEEu21:isEsc Tryz.prog 21=false:=by kernel_rfl
theorem bIEu24:bodyI Tryz.prog 24=bodyF Tryz.f24:=by kernel_rfl
theorem nEEu24:isEsc Tryz.prog 24=false:=by kernel_rfl
theorem bIEu35:bodyI Tryz.prog 35=bodyF Tryz.f35:=by kernel_rfl
theorem nEEu35:isEsc Tryz.prog 35=false:=by kernel_rfl
theorem bIEu36:bodyI Tryz.prog 36=bodyF Tryz.f36:=by kernel_rfl
theorem nEEu36:isEsc Tryz.prog 36=false:=by kernel_rfl
theorem bIEu47:bodyI Tryz.prog 47=bodyF Tryz.f47:=by kernel_rfl
theorem nEEu47:isEsc Tryz.prog 47=false:=by kernel_rfl
theorem bIEu33:bodyI Tryz.prog 33=bodyF Tryz.f33:=by kernel_rfl
theorem nEEu33:isEsc Tryz.prog 33=false:=by kernel_rfl
theorem bIEu45:bodyI Tryz.prog 45=bodyF Tryz.f45:=by kernel_rfl
theorem nEEu45:isEsc Tryz.prog 45=false:=by kernel_rfl
open Nat renaming reduceEqDiff→Z0,reduceBEq→Z1,reduceAdd→Z2,reduceSub→Z3,reduceMul→Z4,reduceLeDiff→Z5
open Int renaming reduceEq→Z6,reduceLE→Z7,reduceLT→Z8,reduceNeg→Z9,reduceToNat→ZA,reduceAdd→ZB,reduceSub→ZC,reduceMul→ZD
set_option maxRecDepth 8000
set_option maxHeartbeats 40000000 in
theorem ea_B(file t:List UInt8)(few:Int)(x:RdS)(hz:t.length≤100000000000)(hx:EaP few t x)(hlt:x.1<(pcsV t).length)(hE:¬(pAt t x).1=(pAt t x).2.2.1)(hS:scanE (lineOf t (pAt t x))=0)(h2:¬(lAt t x).2.1=2)(h1:(lAt t x).2.1=1)(hq0:¬(stC x.2.2 (lAt t x)).1=0):eRound.1 file t few x:=by
 unfold eRound
 dsimp only
 obtain⟨i,out,lv,od,wn,tn⟩:=x
 obtain⟨hi,hol,hfo,hfw⟩:=hx
 dsimp only[pAt,lAt]at hi hol hfo hfw hlt hE hS h2 h1 hq0 ⊢
 have hpl:(pcsV t).length≤t.length+1:=by
  have:=pcs_len t (t.length+1) (bomN t) (bom_len t)
  unfold pcsV
  omega
 have hout:List.take out.length out=out:=List.take_length
 obtain⟨hdr,q0,q1,q2⟩:=pcd_at hlt
 have cA:(pcsV t).getD i (0,0,0,())=(pcsV t).getD i pcdZ:=rfl
 generalize (pcsV t).getD i pcdZ=p at*
 have dl:decide ((i:Int)<((pcsV t).length:Int))=true:=decide_eq_true (by omega)
 rw[hdr,cdFold]at hfo
 have hw:wr .i64 ((i:Int)+1)=((i+1:Nat):Int):=wr_succ (by omega)
 have dE:decide (p.1=p.2.2.1)=false:=decide_eq_false hE
 rw[if_neg hE]at hfo
 have hl:List.take (p.2.1.toNat - p.1.toNat) (List.drop p.1.toNat t)=lineOf t p:=by
  unfold lineOf
  congr 1
  omega
 have hll:(lineOf t p).length≤t.length:=by unfold lineOf;simp;omega
 have dS:decide (scanE (lineOf t p)=0)=true:=decide_eq_true hS
 have hv:scanV ((i+1:Nat):Int) (lineOf t p)=partsV ((i+1:Nat):Int) (lineOf t p):=if_pos hS
 rw[if_neg (by simp[hS])]at hfo
 obtain⟨l,hld⟩:∃l,l=partsV ((i+1:Nat):Int) (lineOf t p):=⟨_,rfl⟩
 rw[←hld]at hfo hv h2 h1 hq0
 have hno:l.1=((i+1:Nat):Int):=by rw[hld];exact parts_no _ _
 have d2:decide (l.2.1=2)=false:=decide_eq_false h2
 have d1:decide (l.2.1=1)=true:=decide_eq_true h1
 obtain⟨w0,hw0⟩:∃w0,w0=List.getD l.2.2.2.1 0 []:=⟨_,rfl⟩
 obtain⟨b,hb⟩:∃b,b=List.getD l.2.2.2.1 1 []:=⟨_,rfl⟩
 have f0:fld l 0=w0:=hw0.symm
 have f1:fld l 1=b:=hb.symm
 have hw0l:w0.length≤t.length:=by
  rw[hw0,List.getD_eq_getElem?_getD]
  rcases Nat.lt_or_ge 0 l.2.2.2.1.length with h|h
  ·rw[List.getElem?_eq_getElem h]
   refine Nat.le_trans (parts_fld (no:=((i+1:Nat):Int)) (s:=lineOf t p) _ ?_) hll
   rw[←hld]
   exact List.getElem_mem h
  ·rw[List.getElem?_eq_none h];simp
 refine run_ok (Cs:=[linPieces,linScan,wrdBlank,cNumber,cOne,wrdClasses,cCheck,cloneLv,cloneOd,lawTwin]) (stp:=[13]) (inl:=[9,21,24,35,36,47,33,45,25]) (unr:=false) (cons_ok linPieces_ok (cons_ok linScan_ok (cons_ok wrdBlank_ok (cons_ok cNumber_ok (cons_ok cOne_ok (cons_ok wrdClasses_ok (cons_ok cCheck_ok (cons_ok cloneLv_ok (cons_ok cloneOd_ok (cons_ok lawTwin_ok nil_ok)))))))))) 200 _ _ _ _ ?_
 simp(maxSteps:=4000000)only[go_sem,reduceIte,reduceCtorEq,Z0,Z1,Z2,Z3,Z4,Z5,Z6,Z7,Z8,Z9,ZA,ZB,ZC,ZD,dl,cA,dE,hw,hl,dS,hv,d2,d1,oneN,oneP,oneM,oneF,linPieces,linScan,wrdBlank,cNumber,cOne,wrdClasses,cCheck,cloneLv,cloneOd,lawTwin]
 (repeat' first|apply And.intro|intro _|(show staB _ _=true;kernel_rfl)|(show dynB _ _=true;kernel_rfl)|(show dynP _ _ _=true;kernel_rfl))
 all_goals try first|contradiction|omega
 by_cases hn:l.2.2.2.1.length=2
 case neg=>
  have dn:decide ((l.2.2.2.1.length:Int)=2)=false:=decide_eq_false (by omega)
  have hM:madeC (lv,od,wn,tn) l=(280,cZ):=by unfold madeC;rw[if_pos hn]
  have e1:casesV t=(280,((i+1:Nat):Int),out):=by
   have hs:stC (lv,od,wn,tn) l=(280,(lv,od,wn,tn),[]):=by unfold stC;rw[if_neg h2,if_pos h1,hM,if_pos (show(280:Int)≠0 by decide)]
   rw[←hfo,hs]
   rfl
  have hS:¬(280:Int)=0:=by decide
  refine run_ok (Cs:=[linPieces,linScan,wrdBlank,cNumber,cOne,wrdClasses,cCheck,cloneLv,cloneOd,lawTwin]) (stp:=[]) (inl:=[9,21,24,35,36,47,33,45,25]) (unr:=false) (cons_ok linPieces_ok (cons_ok linScan_ok (cons_ok wrdBlank_ok (cons_ok cNumber_ok (cons_ok cOne_ok (cons_ok wrdClasses_ok (cons_ok cCheck_ok (cons_ok cloneLv_ok (cons_ok cloneOd_ok (cons_ok lawTwin_ok nil_ok)))))))))) 300 _ _ _ _ ?_
  simp(maxSteps:=4000000)only[go_sem,reduceIte,reduceCtorEq,Z0,Z1,Z2,Z3,Z4,Z5,Z6,Z7,Z8,Z9,ZA,ZB,ZC,ZD,d2,d1,dn,oneN,oneP,oneM,oneF,bIEu9,nEEu9,Tryz.f9,bIEu21,nEEu21,Tryz.f21,bIEu24,nEEu24,Tryz.f24,bIEu35,nEEu35,Tryz.f35,bIEu36,nEEu36,Tryz.f36,bIEu47,nEEu47,Tryz.f47,bIEu33,nEEu33,Tryz.f33,bIEu45,nEEu45,Tryz.f45,bIEu25,nEEu25,Tryz.f25,linPieces,linScan,wrdBlank,cNumber,cOne,wrdClasses,cCheck,cloneLv,cloneOd,lawTwin]
  (repeat' first|apply And.intro|intro _|(show staB _ _=true;kernel_rfl)|(show dynB _ _=true;kernel_rfl)|(show dynP _ _ _=true;kernel_rfl))
  all_goals try first|contradiction|omega
  have hnO:¬eOk few t:=by
   unfold eOk
   rw[e1]
   rintro(q|q)
   ·exact hS q
   ·dsimp only at q
    rcases hfw with h|h<;>omega
  refine RetD.mk (fun h=>(hnO (show _∧eOk few t from h).2).elim) (fun _=>?_)
  refine RetM.of ?_
  show RetMC _ _ cEachX (file,t,few,()) _
  simp(maxSteps:=4000000)only[go_sem,reduceIte,reduceCtorEq,Z0,Z1,Z2,Z3,Z4,Z5,Z6,Z7,Z8,Z9,ZA,ZB,ZC,ZD,RetMC,mPick,cEachX,e1,oneN,linPieces,linScan,wrdBlank,cNumber,cOne,wrdClasses,cCheck,cloneLv,cloneOd,lawTwin]
  (repeat' first|apply And.intro|intro _|(show staB _ _=true;kernel_rfl)|(show dynB _ _=true;kernel_rfl)|(show dynP _ _ _=true;kernel_rfl))
  all_goals first|contradiction|omega|rfl|exact hout|fail
 have dn:decide ((l.2.2.2.1.length:Int)=2)=true:=decide_eq_true (by omega)
 cases hC:clL w0 with
 |none=>
  have h50:(clR w0).2.2=50:=clF_none _ _ hC
  have hM:madeC (lv,od,wn,tn) l=(50,cZ):=by unfold madeC;rw[if_neg (by rw[hn];simp),f0,hC]
  have e1:casesV t=(50,((i+1:Nat):Int),out):=by
   have hs:stC (lv,od,wn,tn) l=(50,(lv,od,wn,tn),[]):=by unfold stC;rw[if_neg h2,if_pos h1,hM,if_pos (show(50:Int)≠0 by decide)]
   rw[←hfo,hs]
   rfl
  have hS:¬(50:Int)=0:=by decide
  refine run_ok (Cs:=[linPieces,linScan,wrdBlank,cNumber,cOne,wrdClasses,cCheck,cloneLv,cloneOd,lawTwin]) (stp:=[]) (inl:=[9,21,24,35,36,47,33,45,25]) (unr:=false) (cons_ok linPieces_ok (cons_ok linScan_ok (cons_ok wrdBlank_ok (cons_ok cNumber_ok (cons_ok cOne_ok (cons_ok wrdClasses_ok (cons_ok cCheck_ok (cons_ok cloneLv_ok (cons_ok cloneOd_ok (cons_ok lawTwin_ok nil_ok)))))))))) 300 _ _ _ _ ?_
  simp(maxSteps:=4000000)only[go_sem,reduceIte,reduceCtorEq,Z0,Z1,Z2,Z3,Z4,Z5,Z6,Z7,Z8,Z9,ZA,ZB,ZC,ZD,d2,d1,dn,←hw0,←hb,h50,oneN,oneP,oneM,oneF,bIEu9,nEEu9,Tryz.f9,bIEu21,nEEu21,Tryz.f21,bIEu24,nEEu24,Tryz.f24,bIEu35,nEEu35,Tryz.f35,bIEu36,nEEu36,Tryz.f36,bIEu47,nEEu47,Tryz.f47,bIEu33,nEEu33,Tryz.f33,bIEu45,nEEu45,Tryz.f45,bIEu25,nEEu25,Tryz.f25,linPieces,linScan,wrdBlank,cNumber,cOne,wrdClasses,cCheck,cloneLv,cloneOd,lawTwin]
  (repeat' first|apply And.intro|intro _|(show staB _ _=true;kernel_rfl)|(show dynB _ _=true;kernel_rfl)|(show dynP _ _ _=true;kernel_rfl))
  all_goals try first|contradiction|omega
  have hnO:¬eOk few t:=by
   unfold eOk
   rw[e1]
   rintro(q|q)
   ·exact hS q
   ·dsimp only at q
    rcases hfw with h|h<;>omega
  refine RetD.mk (fun h=>(hnO (show _∧eOk few t from h).2).elim) (fun _=>?_)
  refine RetM.of ?_
  show RetMC _ _ cEachX (file,t,few,()) _
  simp(maxSteps:=4000000)only[go_sem,reduceIte,reduceCtorEq,Z0,Z1,Z2,Z3,Z4,Z5,Z6,Z7,Z8,Z9,ZA,ZB,ZC,ZD,RetMC,mPick,cEachX,e1,oneN,linPieces,linScan,wrdBlank,cNumber,cOne,wrdClasses,cCheck,cloneLv,cloneOd,lawTwin]
  (repeat' first|apply And.intro|intro _|(show staB _ _=true;kernel_rfl)|(show dynB _ _=true;kernel_rfl)|(show dynP _ _ _=true;kernel_rfl))
  all_goals first|contradiction|omega|rfl|exact hout|fail
 |some cl=>
  have hcR:=clR_some hC
  have hmd:madeC (lv,od,wn,tn) l=if bsB b=false then(283,cZ)else if wn=false then(281,cZ)else if tn=false then(282,cZ)else if chkV (cdOf (lv,od,wn,tn) l cl)≠0 then(chkV (cdOf (lv,od,wn,tn) l cl),cZ)else(0,cdOf (lv,od,wn,tn) l cl):=by
   unfold madeC
   rw[if_neg (by rw[hn];simp),f0,hC,f1]
  by_cases hb1:b.length=1
  case neg=>
   have dB1:decide ((b.length:Int)=1)=false:=decide_eq_false (by omega)
   have hbs:bsB b=false:=by unfold bsB;rw[decide_eq_false hb1];rfl
   have hM:madeC (lv,od,wn,tn) l=(283,cZ):=by rw[hmd,if_pos hbs]
   have e1:casesV t=(283,((i+1:Nat):Int),out):=by
    have hs:stC (lv,od,wn,tn) l=(283,(lv,od,wn,tn),[]):=by unfold stC;rw[if_neg h2,if_pos h1,hM,if_pos (show(283:Int)≠0 by decide)]
    rw[←hfo,hs]
    rfl
   have hS:¬(283:Int)=0:=by decide
   refine run_ok (Cs:=[linPieces,linScan,wrdBlank,cNumber,cOne,wrdClasses,cCheck,cloneLv,cloneOd,lawTwin]) (stp:=[]) (inl:=[9,21,24,35,36,47,33,45,25]) (unr:=false) (cons_ok linPieces_ok (cons_ok linScan_ok (cons_ok wrdBlank_ok (cons_ok cNumber_ok (cons_ok cOne_ok (cons_ok wrdClasses_ok (cons_ok cCheck_ok (cons_ok cloneLv_ok (cons_ok cloneOd_ok (cons_ok lawTwin_ok nil_ok)))))))))) 300 _ _ _ _ ?_
   simp(maxSteps:=4000000)only[go_sem,reduceIte,reduceCtorEq,Z0,Z1,Z2,Z3,Z4,Z5,Z6,Z7,Z8,Z9,ZA,ZB,ZC,ZD,hw,d2,d1,dn,←hw0,←hb,hcR,dB1,oneN,oneP,oneM,oneF,bIEu9,nEEu9,Tryz.f9,bIEu21,nEEu21,Tryz.f21,bIEu24,nEEu24,Tryz.f24,bIEu35,nEEu35,Tryz.f35,bIEu36,nEEu36,Tryz.f36,bIEu47,nEEu47,Tryz.f47,bIEu33,nEEu33,Tryz.f33,bIEu45,nEEu45,Tryz.f45,bIEu25,nEEu25,Tryz.f25,linPieces,linScan,wrdBlank,cNumber,cOne,wrdClasses,cCheck,cloneLv,cloneOd,lawTwin]
   (repeat' first|apply And.intro|intro _|(show staB _ _=true;kernel_rfl)|(show dynB _ _=true;kernel_rfl)|(show dynP _ _ _=true;kernel_rfl))
   all_goals try first|contradiction|omega
   have hnO:¬eOk few t:=by
    unfold eOk
    rw[e1]
    rintro(q|q)
    ·exact hS q
    ·dsimp only at q
     rcases hfw with h|h<;>omega
   refine RetD.mk (fun h=>(hnO (show _∧eOk few t from h).2).elim) (fun _=>?_)
   refine RetM.of ?_
   show RetMC _ _ cEachX (file,t,few,()) _
   simp(maxSteps:=4000000)only[go_sem,reduceIte,reduceCtorEq,Z0,Z1,Z2,Z3,Z4,Z5,Z6,Z7,Z8,Z9,ZA,ZB,ZC,ZD,RetMC,mPick,cEachX,e1,oneN,linPieces,linScan,wrdBlank,cNumber,cOne,wrdClasses,cCheck,cloneLv,cloneOd,lawTwin]
   (repeat' first|apply And.intro|intro _|(show staB _ _=true;kernel_rfl)|(show dynB _ _=true;kernel_rfl)|(show dynP _ _ _=true;kernel_rfl))
   all_goals first|contradiction|omega|rfl|exact hout|fail
  have dB1:decide ((b.length:Int)=1)=true:=decide_eq_true (by omega)
  by_cases hb2:(b.getD 0 0).toNat<49
  ·have dB2:decide (((b.getD 0 0).toNat:Int)<49)=true:=decide_eq_true (by omega)
   have hbs:bsB b=false:=by unfold bsB;rw[decide_eq_false (show¬49≤(b.getD 0 0).toNat by omega)];simp
   have hM:madeC (lv,od,wn,tn) l=(283,cZ):=by rw[hmd,if_pos hbs]
   have e1:casesV t=(283,((i+1:Nat):Int),out):=by
    have hs:stC (lv,od,wn,tn) l=(283,(lv,od,wn,tn),[]):=by unfold stC;rw[if_neg h2,if_pos h1,hM,if_pos (show(283:Int)≠0 by decide)]
    rw[←hfo,hs]
    rfl
   have hS:¬(283:Int)=0:=by decide
   refine run_ok (Cs:=[linPieces,linScan,wrdBlank,cNumber,cOne,wrdClasses,cCheck,cloneLv,cloneOd,lawTwin]) (stp:=[]) (inl:=[9,21,24,35,36,47,33,45,25]) (unr:=false) (cons_ok linPieces_ok (cons_ok linScan_ok (cons_ok wrdBlank_ok (cons_ok cNumber_ok (cons_ok cOne_ok (cons_ok wrdClasses_ok (cons_ok cCheck_ok (cons_ok cloneLv_ok (cons_ok cloneOd_ok (cons_ok lawTwin_ok nil_ok)))))))))) 300 _ _ _ _ ?_
   simp(maxSteps:=4000000)only[go_sem,reduceIte,reduceCtorEq,Z0,Z1,Z2,Z3,Z4,Z5,Z6,Z7,Z8,Z9,ZA,ZB,ZC,ZD,hw,d2,d1,dn,←hw0,←hb,hcR,dB1,dB2,oneN,oneP,oneM,oneF,bIEu9,nEEu9,Tryz.f9,bIEu21,nEEu21,Tryz.f21,bIEu24,nEEu24,Tryz.f24,bIEu35,nEEu35,Tryz.f35,bIEu36,nEEu36,Tryz.f36,bIEu47,nEEu47,Tryz.f47,bIEu33,nEEu33,Tryz.f33,bIEu45,nEEu45,Tryz.f45,bIEu25,nEEu25,Tryz.f25,linPieces,linScan,wrdBlank,cNumber,cOne,wrdClasses,cCheck,cloneLv,cloneOd,lawTwin]
   (repeat' first|apply And.intro|intro _|(show staB _ _=true;kernel_rfl)|(show dynB _ _=true;kernel_rfl)|(show dynP _ _ _=true;kernel_rfl))
   all_goals try first|contradiction|omega
   have hnO:¬eOk few t:=by
    unfold eOk
    rw[e1]
    rintro(q|q)
    ·exact hS q
    ·dsimp only at q
     rcases hfw with h|h<;>omega
   refine RetD.mk (fun h=>(hnO (show _∧eOk few t from h).2).elim) (fun _=>?_)
   refine RetM.of ?_
   show RetMC _ _ cEachX (file,t,few,()) _
   simp(maxSteps:=4000000)only[go_sem,reduceIte,reduceCtorEq,Z0,Z1,Z2,Z3,Z4,Z5,Z6,Z7,Z8,Z9,ZA,ZB,ZC,ZD,RetMC,mPick,cEachX,e1,oneN,linPieces,linScan,wrdBlank,cNumber,cOne,wrdClasses,cCheck,cloneLv,cloneOd,lawTwin]
   (repeat' first|apply And.intro|intro _|(show staB _ _=true;kernel_rfl)|(show dynB _ _=true;kernel_rfl)|(show dynP _ _ _=true;kernel_rfl))
   all_goals first|contradiction|omega|rfl|exact hout|fail
  have dB2:decide (((b.getD 0 0).toNat:Int)<49)=false:=decide_eq_false (by omega)
  by_cases hb3:55<(b.getD 0 0).toNat
  ·have dB3:decide ((55:Int)<((b.getD 0 0).toNat:Int))=true:=decide_eq_true (by omega)
   have hbs:bsB b=false:=by unfold bsB;rw[decide_eq_false (show¬(b.getD 0 0).toNat≤55 by omega)];simp
   have hM:madeC (lv,od,wn,tn) l=(283,cZ):=by rw[hmd,if_pos hbs]
   have e1:casesV t=(283,((i+1:Nat):Int),out):=by
    have hs:stC (lv,od,wn,tn) l=(283,(lv,od,wn,tn),[]):=by unfold stC;rw[if_neg h2,if_pos h1,hM,if_pos (show(283:Int)≠0 by decide)]
    rw[←hfo,hs]
    rfl
   have hS:¬(283:Int)=0:=by decide
   refine run_ok (Cs:=[linPieces,linScan,wrdBlank,cNumber,cOne,wrdClasses,cCheck,cloneLv,cloneOd,lawTwin]) (stp:=[]) (inl:=[9,21,24,35,36,47,33,45,25]) (unr:=false) (cons_ok linPieces_ok (cons_ok linScan_ok (cons_ok wrdBlank_ok (cons_ok cNumber_ok (cons_ok cOne_ok (cons_ok wrdClasses_ok (cons_ok cCheck_ok (cons_ok cloneLv_ok (cons_ok cloneOd_ok (cons_ok lawTwin_ok nil_ok)))))))))) 300 _ _ _ _ ?_
   simp(maxSteps:=4000000)only[go_sem,reduceIte,reduceCtorEq,Z0,Z1,Z2,Z3,Z4,Z5,Z6,Z7,Z8,Z9,ZA,ZB,ZC,ZD,hw,d2,d1,dn,←hw0,←hb,hcR,dB1,dB2,dB3,oneN,oneP,oneM,oneF,bIEu9,nEEu9,Tryz.f9,bIEu21,nEEu21,Tryz.f21,bIEu24,nEEu24,Tryz.f24,bIEu35,nEEu35,Tryz.f35,bIEu36,nEEu36,Tryz.f36,bIEu47,nEEu47,Tryz.f47,bIEu33,nEEu33,Tryz.f33,bIEu45,nEEu45,Tryz.f45,bIEu25,nEEu25,Tryz.f25,linPieces,linScan,wrdBlank,cNumber,cOne,wrdClasses,cCheck,cloneLv,cloneOd,lawTwin]
   (repeat' first|apply And.intro|intro _|(show staB _ _=true;kernel_rfl)|(show dynB _ _=true;kernel_rfl)|(show dynP _ _ _=true;kernel_rfl))
   all_goals try first|contradiction|omega
   have hnO:¬eOk few t:=by
    unfold eOk
    rw[e1]
    rintro(q|q)
    ·exact hS q
    ·dsimp only at q
     rcases hfw with h|h<;>omega
   refine RetD.mk (fun h=>(hnO (show _∧eOk few t from h).2).elim) (fun _=>?_)
   refine RetM.of ?_
   show RetMC _ _ cEachX (file,t,few,()) _
   simp(maxSteps:=4000000)only[go_sem,reduceIte,reduceCtorEq,Z0,Z1,Z2,Z3,Z4,Z5,Z6,Z7,Z8,Z9,ZA,ZB,ZC,ZD,RetMC,mPick,cEachX,e1,oneN,linPieces,linScan,wrdBlank,cNumber,cOne,wrdClasses,cCheck,cloneLv,cloneOd,lawTwin]
   (repeat' first|apply And.intro|intro _|(show staB _ _=true;kernel_rfl)|(show dynB _ _=true;kernel_rfl)|(show dynP _ _ _=true;kernel_rfl))
   all_goals first|contradiction|omega|rfl|exact hout|fail
  have dB3:decide ((55:Int)<((b.getD 0 0).toNat:Int))=false:=decide_eq_false (by omega)
  have hbs:¬bsB b=false:=by
   unfold bsB
   rw[decide_eq_true hb1,decide_eq_true (show 49≤(b.getD 0 0).toNat by omega),decide_eq_true (show(b.getD 0 0).toNat≤55 by omega)]
   simp
  rw[if_neg hbs]at hmd
  cases wn with
  |false=>
   have hM:madeC (lv,od,false,tn) l=(281,cZ):=by rw[hmd,if_pos rfl]
   have e1:casesV t=(281,((i+1:Nat):Int),out):=by
    have hs:stC (lv,od,false,tn) l=(281,(lv,od,false,tn),[]):=by unfold stC;rw[if_neg h2,if_pos h1,hM,if_pos (show(281:Int)≠0 by decide)]
    rw[←hfo,hs]
    rfl
   have hS:¬(281:Int)=0:=by decide
   refine run_ok (Cs:=[linPieces,linScan,wrdBlank,cNumber,cOne,wrdClasses,cCheck,cloneLv,cloneOd,lawTwin]) (stp:=[]) (inl:=[9,21,24,35,36,47,33,45,25]) (unr:=false) (cons_ok linPieces_ok (cons_ok linScan_ok (cons_ok wrdBlank_ok (cons_ok cNumber_ok (cons_ok cOne_ok (cons_ok wrdClasses_ok (cons_ok cCheck_ok (cons_ok cloneLv_ok (cons_ok cloneOd_ok (cons_ok lawTwin_ok nil_ok)))))))))) 300 _ _ _ _ ?_
   simp(maxSteps:=4000000)only[go_sem,reduceIte,reduceCtorEq,Z0,Z1,Z2,Z3,Z4,Z5,Z6,Z7,Z8,Z9,ZA,ZB,ZC,ZD,hw,d2,d1,dn,←hw0,←hb,hcR,dB1,dB2,dB3,oneN,oneP,oneM,oneF,bIEu9,nEEu9,Tryz.f9,bIEu21,nEEu21,Tryz.f21,bIEu24,nEEu24,Tryz.f24,bIEu35,nEEu35,Tryz.f35,bIEu36,nEEu36,Tryz.f36,bIEu47,nEEu47,Tryz.f47,bIEu33,nEEu33,Tryz.f33,bIEu45,nEEu45,Tryz.f45,bIEu25,nEEu25,Tryz.f25,linPieces,linScan,wrdBlank,cNumber,cOne,wrdClasses,cCheck,cloneLv,cloneOd,lawTwin]
   (repeat' first|apply And.intro|intro _|(show staB _ _=true;kernel_rfl)|(show dynB _ _=true;kernel_rfl)|(show dynP _ _ _=true;kernel_rfl))
   all_goals try first|contradiction|omega
   have hnO:¬eOk few t:=by
    unfold eOk
    rw[e1]
    rintro(q|q)
    ·exact hS q
    ·dsimp only at q
     rcases hfw with h|h<;>omega
   refine RetD.mk (fun h=>(hnO (show _∧eOk few t from h).2).elim) (fun _=>?_)
   refine RetM.of ?_
   show RetMC _ _ cEachX (file,t,few,()) _
   simp(maxSteps:=4000000)only[go_sem,reduceIte,reduceCtorEq,Z0,Z1,Z2,Z3,Z4,Z5,Z6,Z7,Z8,Z9,ZA,ZB,ZC,ZD,RetMC,mPick,cEachX,e1,oneN,linPieces,linScan,wrdBlank,cNumber,cOne,wrdClasses,cCheck,cloneLv,cloneOd,lawTwin]
   (repeat' first|apply And.intro|intro _|(show staB _ _=true;kernel_rfl)|(show dynB _ _=true;kernel_rfl)|(show dynP _ _ _=true;kernel_rfl))
   all_goals first|contradiction|omega|rfl|exact hout|fail
  |true=>
   rw[if_neg (by simp)]at hmd
   cases tn with
   |false=>
    have hM:madeC (lv,od,true,false) l=(282,cZ):=by rw[hmd,if_pos rfl]
    have e1:casesV t=(282,((i+1:Nat):Int),out):=by
     have hs:stC (lv,od,true,false) l=(282,(lv,od,true,false),[]):=by unfold stC;rw[if_neg h2,if_pos h1,hM,if_pos (show(282:Int)≠0 by decide)]
     rw[←hfo,hs]
     rfl
    have hS:¬(282:Int)=0:=by decide
    refine run_ok (Cs:=[linPieces,linScan,wrdBlank,cNumber,cOne,wrdClasses,cCheck,cloneLv,cloneOd,lawTwin]) (stp:=[]) (inl:=[9,21,24,35,36,47,33,45,25]) (unr:=false) (cons_ok linPieces_ok (cons_ok linScan_ok (cons_ok wrdBlank_ok (cons_ok cNumber_ok (cons_ok cOne_ok (cons_ok wrdClasses_ok (cons_ok cCheck_ok (cons_ok cloneLv_ok (cons_ok cloneOd_ok (cons_ok lawTwin_ok nil_ok)))))))))) 300 _ _ _ _ ?_
    simp(maxSteps:=4000000)only[go_sem,reduceIte,reduceCtorEq,Z0,Z1,Z2,Z3,Z4,Z5,Z6,Z7,Z8,Z9,ZA,ZB,ZC,ZD,hw,d2,d1,dn,←hw0,←hb,hcR,dB1,dB2,dB3,oneN,oneP,oneM,oneF,bIEu9,nEEu9,Tryz.f9,bIEu21,nEEu21,Tryz.f21,bIEu24,nEEu24,Tryz.f24,bIEu35,nEEu35,Tryz.f35,bIEu36,nEEu36,Tryz.f36,bIEu47,nEEu47,Tryz.f47,bIEu33,nEEu33,Tryz.f33,bIEu45,nEEu45,Tryz.f45,bIEu25,nEEu25,Tryz.f25,linPieces,linScan,wrdBlank,cNumber,cOne,wrdClasses,cCheck,cloneLv,cloneOd,lawTwin]
    (repeat' first|apply And.intro|intro _|(show staB _ _=true;kernel_rfl)|(show dynB _ _=true;kernel_rfl)|(show dynP _ _ _=true;kernel_rfl))
    all_goals try first|contradiction|omega
    have hnO:¬eOk few t:=by
     unfold eOk
     rw[e1]
     rintro(q|q)
     ·exact hS q
     ·dsimp only at q
      rcases hfw with h|h<;>omega
    refine RetD.mk (fun h=>(hnO (show _∧eOk few t from h).2).elim) (fun _=>?_)
    refine RetM.of ?_
    show RetMC _ _ cEachX (file,t,few,()) _
    simp(maxSteps:=4000000)only[go_sem,reduceIte,reduceCtorEq,Z0,Z1,Z2,Z3,Z4,Z5,Z6,Z7,Z8,Z9,ZA,ZB,ZC,ZD,RetMC,mPick,cEachX,e1,oneN,linPieces,linScan,wrdBlank,cNumber,cOne,wrdClasses,cCheck,cloneLv,cloneOd,lawTwin]
    (repeat' first|apply And.intro|intro _|(show staB _ _=true;kernel_rfl)|(show dynB _ _=true;kernel_rfl)|(show dynP _ _ _=true;kernel_rfl))
    all_goals first|contradiction|omega|rfl|exact hout|fail
   |true=>
    rw[if_neg (by simp)]at hmd
    obtain⟨c,hcc⟩:∃c:CD,c=(((i+1:Nat):Int),cl,((b.getD 0 0).toNat:Int) - 48,lv,od,()):=⟨_,rfl⟩
    have hcd:cdOf (lv,od,true,true) l cl=c:=by
     rw[hcc]
     show(l.1,cl,(((fld l 1).getD 0 0).toNat:Int) - 48,lv,od,())=_
     rw[hno,f1]
    rw[hcd]at hmd
    have w9:wr .u8 (((b.getD 0 0).toNat:Int) - 48)=((b.getD 0 0).toNat:Int) - 48:=wr_u8 (by omega) (by omega)
    obtain⟨e,he⟩:∃e,e=chkV c:=⟨_,rfl⟩
    have he2:chkV (((i+1:Nat):Int),cl,((b.getD 0 0).toNat:Int) - 48,lv,od,())=e:=by rw[he,hcc]
    rw[←he]at hmd
    by_cases hK:e=0
    case neg=>
     have dK:decide (e=0)=false:=decide_eq_false hK
     have hM:madeC (lv,od,true,true) l=(e,cZ):=by rw[hmd,if_pos hK]
     have e1:casesV t=(e,((i+1:Nat):Int),out):=by
      have hs:stC (lv,od,true,true) l=(e,(lv,od,true,true),[]):=by unfold stC;rw[if_neg h2,if_pos h1,hM,if_pos hK]
      rw[←hfo,hs,if_pos hK]
     have hS:¬e=0:=hK
     refine run_ok (Cs:=[linPieces,linScan,wrdBlank,cNumber,cOne,wrdClasses,cCheck,cloneLv,cloneOd,lawTwin]) (stp:=[]) (inl:=[9,21,24,35,36,47,33,45,25]) (unr:=false) (cons_ok linPieces_ok (cons_ok linScan_ok (cons_ok wrdBlank_ok (cons_ok cNumber_ok (cons_ok cOne_ok (cons_ok wrdClasses_ok (cons_ok cCheck_ok (cons_ok cloneLv_ok (cons_ok cloneOd_ok (cons_ok lawTwin_ok nil_ok)))))))))) 300 _ _ _ _ ?_
     simp(maxSteps:=4000000)only[go_sem,reduceIte,reduceCtorEq,Z0,Z1,Z2,Z3,Z4,Z5,Z6,Z7,Z8,Z9,ZA,ZB,ZC,ZD,hw,d2,d1,dn,←hw0,←hb,hcR,dB1,dB2,dB3,w9,he2,dK,oneN,oneP,oneM,oneF,bIEu9,nEEu9,Tryz.f9,bIEu21,nEEu21,Tryz.f21,bIEu24,nEEu24,Tryz.f24,bIEu35,nEEu35,Tryz.f35,bIEu36,nEEu36,Tryz.f36,bIEu47,nEEu47,Tryz.f47,bIEu33,nEEu33,Tryz.f33,bIEu45,nEEu45,Tryz.f45,bIEu25,nEEu25,Tryz.f25,linPieces,linScan,wrdBlank,cNumber,cOne,wrdClasses,cCheck,cloneLv,cloneOd,lawTwin]
     (repeat' first|apply And.intro|intro _|(show staB _ _=true;kernel_rfl)|(show dynB _ _=true;kernel_rfl)|(show dynP _ _ _=true;kernel_rfl))
     all_goals try first|contradiction|omega
     have hnO:¬eOk few t:=by
      unfold eOk
      rw[e1]
      rintro(q|q)
      ·exact hS q
      ·dsimp only at q
       rcases hfw with h|h<;>omega
     refine RetD.mk (fun h=>(hnO (show _∧eOk few t from h).2).elim) (fun _=>?_)
     refine RetM.of ?_
     show RetMC _ _ cEachX (file,t,few,()) _
     simp(maxSteps:=4000000)only[go_sem,reduceIte,reduceCtorEq,Z0,Z1,Z2,Z3,Z4,Z5,Z6,Z7,Z8,Z9,ZA,ZB,ZC,ZD,RetMC,mPick,cEachX,e1,oneN,linPieces,linScan,wrdBlank,cNumber,cOne,wrdClasses,cCheck,cloneLv,cloneOd,lawTwin]
     (repeat' first|apply And.intro|intro _|(show staB _ _=true;kernel_rfl)|(show dynB _ _=true;kernel_rfl)|(show dynP _ _ _=true;kernel_rfl))
     all_goals first|contradiction|omega|rfl|exact hout|fail
    have dK:decide (e=0)=true:=decide_eq_true hK
    have hM:madeC (lv,od,true,true) l=(0,c):=by rw[hmd,if_neg (by simp[hK])]
    have hfo':cdFold t (i+1+1) ((pcsV t).drop (i+1)) (lv,od,true,true) (out++[c])=casesV t:=by
     have hs:stC (lv,od,true,true) l=(0,(lv,od,true,true),[c]):=by unfold stC;rw[if_neg h2,if_pos h1,hM,if_neg (by simp)]
     rw[←hfo,hs,if_neg (by simp)]
    have hol3:(out++[c]).length=out.length+1:=by simp
    exact absurd (by unfold stC;rw[if_neg h2,if_pos h1,hM,if_neg (by simp)]) hq0
end Go.Proofs.YthopfpplnclanaaGreatDoor.Sx
