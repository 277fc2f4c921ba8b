/- A part of the proof. -/
import Derived.Test.YthopfpplnclanaaGreatDoorW14
import Derived.Test.YthopfpplnclanaaGreatDoorW15
import Derived.Test.YthopfpplnclanaaGreatDoorW16
import Derived.Test.YthopfpplnclanaaGreatDoorW0
import Derived.Test.YthopfpplnclanaaGreatDoorW1
import Derived.Test.YthopfpplnclanaaGreatDoorW2
import Derived.Test.YthopfpplnclanaaGreatDoorW3
import Derived.Test.YthopfpplnclanaaGreatDoorW4
import Derived.Test.YthopfpplnclanaaGreatDoorW5
import Derived.Test.YthopfpplnclanaaGreatDoorW6
import Derived.Test.YthopfpplnclanaaGreatDoorW7
import Derived.Test.YthopfpplnclanaaGreatDoorW8
import Derived.Test.YthopfpplnclanaaGreatDoorW12
import Derived.Test.YthopfpplnclanaaGreatDoorW13
namespace Go.Proofs.YthopfpplnclanaaGreatDoor.Sx
attribute [local irreducible] OkQ Ok RetD
set_option linter.unusedSimpArgs false
set_option linter.unusedVariables false
theorem bIEs25:bodyI Tryz.prog 25=bodyF Tryz.f25:=by kernel_rfl
theorem nEEs25:isEsc Tryz.prog 25=false:=by kernel_rfl
theorem bIEs9:bodyI Tryz.prog 9=bodyF Tryz.f9:=by kernel_rfl
theorem nEEs9:isEsc Tryz.prog 9=false:=by kernel_rfl
theorem bIEs21:bodyI Tryz.prog 21=bodyF Tryz.f21:=by kernel_rfl
theorem nEEs21:isEsc Tryz.prog 21=false:=by kernel_rfl
theorem bIEs24:bodyI Tryz.prog 24=bodyF Tryz.f24:=by kernel_rfl
theorem nEEs24:isEsc Tryz.prog 24=false:=by kernel_rfl
theorem bIEs35:bodyI Tryz.prog 35=bodyF Tryz.f35:=by kernel_rfl
theorem nEEs35:isEsc Tryz.prog 35=false:=by kernel_rfl
theorem bIEs11:bodyI Tryz.prog 11=bodyF Tryz.f11:=by kernel_rfl
theorem nEEs11:isEsc Tryz.prog 11=false:=by kernel_rfl
theorem bIEs36:bodyI Tryz.prog 36=bodyF Tryz.f36:=by kernel_rfl
theorem nEEs36:isEsc Tryz.prog 36=false:=by kernel_rfl
theorem bIEs47:bodyI Tryz.prog 47=bodyF Tryz.f47:=by kernel_rfl
theorem nEEs47:isEsc Tryz.prog 47=false:=by kernel_rfl
theorem bIEs33:bodyI Tryz.prog 33=bodyF Tryz.f33:=by kernel_rfl
theorem nEEs33:isEsc Tryz.prog 33=false:=by kernel_rfl
theorem bIEs45:bodyI Tryz.prog 45=bodyF Tryz.f45:=by kernel_rfl
theorem nEEs45:isEsc Tryz.prog 45=false:=by kernel_rfl
open Nat renaming reduceEqDiff→Z0,reduceBEq→Z1,reduceAdd→Z2,reduceSub→Z3,reduceMul→Z4,reduceLeDiff→Z5
open Int renaming reduceEq→Z6,reduceLE→Z7,reduceLT→Z8,reduceNeg→Z9,reduceToNat→ZA,reduceAdd→ZB,reduceSub→ZC,reduceMul→ZD
set_option maxRecDepth 8000
set_option maxHeartbeats 40000000 in
theorem ea_J(file:List UInt8)(few:Int)(t:List UInt8)(i:Nat)(out:List CD)(lv od cl:List Int)(b:List UInt8)(p:PcD)(l:LnD)(w0:List UInt8)(e:Int)(k2:Nat)(ys2:List Int)(k3:Nat)(ys3:List Int)(k4:Nat)(ys4:List Int)(hz:t.length≤100000000000)(hi:i≤(pcsV t).length)(hol:out.length≤i)(hfw:few<0∨(out.length:Int)≤few)(hlt:i<(pcsV t).length)(hpl:(pcsV t).length≤t.length+1)
 (hfo:cdFold t (i+1+1) ((pcsV t).drop (i+1)) (lv,od,true,true) (out++[(((i+1:Nat):Int),cl,((b.getD 0 0).toNat:Int) - 48,lv,od,())])=casesV t) (hcl:cl.length≤140737488355328) (hlv:lv.length≤140737488355328) (hod:od.length≤140737488355328):eaE.1 file few t i out lv od cl b p l w0 e k2 ys2 k3 ys3 k4 ys4:=by
 unfold eaE
 dsimp only
 have eT:elT Tryz.prog 23=some 37:=by kernel_rfl
 have n2:decide ((1:Int)<((1:Nat):Int))=false:=by decide
 have w1:wr .i64 (1:Int)=1:=by decide
 have hw:wr .i64 ((i:Int)+1)=((i+1:Nat):Int):=wr_succ (by omega)
 obtain⟨c,hcc⟩:∃c:CD,c=(((i+1:Nat):Int),cl,((b.getD 0 0).toNat:Int) - 48,lv,od,()):=⟨_,rfl⟩
 rw[←hcc]at hfo
 have hol3:(out++[c]).length=out.length+1:=by simp
 have hout:List.take out.length out=out:=List.take_length
 by_cases hF:few<0
 ·have dF:decide ((0:Int)≤few)=false:=decide_eq_false (by omega)
  refine run_ok (Cs:=[linPieces,linScan,wrdBlank,cNumber,cOne,wrdClasses,cCheck,cloneLv,cloneOd,lawTwin]) (stp:=[]) (inl:=[9,21,24,35,36,47,33,45,25,11]) (unr:=false) (cons_ok linPieces_ok (cons_ok linScan_ok (cons_ok wrdBlank_ok (cons_ok cNumber_ok (cons_ok cOne_ok (cons_ok wrdClasses_ok (cons_ok cCheck_ok (cons_ok cloneLv_ok (cons_ok cloneOd_ok (cons_ok lawTwin_ok nil_ok)))))))))) 300 _ _ _ _ ?_
  simp(maxSteps:=4000000)only[go_sem,reduceIte,reduceCtorEq,Z0,Z1,Z2,Z3,Z4,Z5,Z6,Z7,Z8,Z9,ZA,ZB,ZC,ZD,eT,n2,w1,dF,hw,oneN,oneP,oneM,oneF,bIEs9,nEEs9,Tryz.f9,bIEs21,nEEs21,Tryz.f21,bIEs24,nEEs24,Tryz.f24,bIEs35,nEEs35,Tryz.f35,bIEs36,nEEs36,Tryz.f36,bIEs47,nEEs47,Tryz.f47,bIEs33,nEEs33,Tryz.f33,bIEs45,nEEs45,Tryz.f45,bIEs25,nEEs25,Tryz.f25,bIEs11,nEEs11,Tryz.f11,linPieces,linScan,wrdBlank,cNumber,cOne,wrdClasses,cCheck,cloneLv,cloneOd,lawTwin]
  refine run_ok (Cs:=[linPieces,linScan,wrdBlank,cNumber,cOne,wrdClasses,cCheck,cloneLv,cloneOd,lawTwin]) (stp:=[]) (inl:=[9,21,24,35,36,47,33,45,25,11]) (unr:=false) (cons_ok linPieces_ok (cons_ok linScan_ok (cons_ok wrdBlank_ok (cons_ok cNumber_ok (cons_ok cOne_ok (cons_ok wrdClasses_ok (cons_ok cCheck_ok (cons_ok cloneLv_ok (cons_ok cloneOd_ok (cons_ok lawTwin_ok nil_ok)))))))))) 300 _ _ _ _ ?_
  simp(maxSteps:=4000000)only[go_sem,reduceIte,reduceCtorEq,Z0,Z1,Z2,Z3,Z4,Z5,Z6,Z7,Z8,Z9,ZA,ZB,ZC,ZD,hw,oneN,oneP,oneM,oneF,bIEs9,nEEs9,Tryz.f9,bIEs21,nEEs21,Tryz.f21,bIEs24,nEEs24,Tryz.f24,bIEs35,nEEs35,Tryz.f35,bIEs36,nEEs36,Tryz.f36,bIEs47,nEEs47,Tryz.f47,bIEs33,nEEs33,Tryz.f33,bIEs45,nEEs45,Tryz.f45,bIEs25,nEEs25,Tryz.f25,bIEs11,nEEs11,Tryz.f11,linPieces,linScan,wrdBlank,cNumber,cOne,wrdClasses,cCheck,cloneLv,cloneOd,lawTwin]
  (repeat' first|apply And.intro|intro _|(show staB _ _=true;kernel_rfl)|(show dynB _ _=true;kernel_rfl)|(show dynP _ _ _=true;kernel_rfl))
  all_goals try first|contradiction|omega
  refine backK.mk (i+1,out++[c],(lv,od,true,true)) ⟨by dsimp only;omega,by dsimp only;omega,hfo,.inl hF⟩ (by dsimp only;omega) ?_
  simp(maxSteps:=4000000)only[go_sem,reduceIte,reduceCtorEq,Z0,Z1,Z2,Z3,Z4,Z5,Z6,Z7,Z8,Z9,ZA,ZB,ZC,ZD,hw,hol3,hout,hcc,linPieces,linScan,wrdBlank,cNumber,cOne,wrdClasses,cCheck,cloneLv,cloneOd,lawTwin]
  all_goals first|rfl|exact hw|exact⟨rfl,rfl⟩|exact⟨⟨rfl,rfl⟩,rfl⟩|exact⟨rfl,rfl,rfl⟩|fail
 have dF:decide ((0:Int)≤few)=true:=decide_eq_true (by omega)
 have hfw2:=hfw.resolve_left hF
 by_cases hG:few<((out.length:Int)+1)
 case neg=>
  have dG:decide (few<((out.length:Int)+1))=false:=decide_eq_false hG
  have dG2:decide (few<((out.length+1:Nat):Int))=false:=decide_eq_false (by omega)
  refine run_ok (Cs:=[linPieces,linScan,wrdBlank,cNumber,cOne,wrdClasses,cCheck,cloneLv,cloneOd,lawTwin]) (stp:=[]) (inl:=[9,21,24,35,36,47,33,45,25,11]) (unr:=false) (cons_ok linPieces_ok (cons_ok linScan_ok (cons_ok wrdBlank_ok (cons_ok cNumber_ok (cons_ok cOne_ok (cons_ok wrdClasses_ok (cons_ok cCheck_ok (cons_ok cloneLv_ok (cons_ok cloneOd_ok (cons_ok lawTwin_ok nil_ok)))))))))) 300 _ _ _ _ ?_
  simp(maxSteps:=4000000)only[go_sem,reduceIte,reduceCtorEq,Z0,Z1,Z2,Z3,Z4,Z5,Z6,Z7,Z8,Z9,ZA,ZB,ZC,ZD,eT,n2,w1,dF,dG,dG2,hw,oneN,oneP,oneM,oneF,bIEs9,nEEs9,Tryz.f9,bIEs21,nEEs21,Tryz.f21,bIEs24,nEEs24,Tryz.f24,bIEs35,nEEs35,Tryz.f35,bIEs36,nEEs36,Tryz.f36,bIEs47,nEEs47,Tryz.f47,bIEs33,nEEs33,Tryz.f33,bIEs45,nEEs45,Tryz.f45,bIEs25,nEEs25,Tryz.f25,bIEs11,nEEs11,Tryz.f11,linPieces,linScan,wrdBlank,cNumber,cOne,wrdClasses,cCheck,cloneLv,cloneOd,lawTwin]
  refine run_ok (Cs:=[linPieces,linScan,wrdBlank,cNumber,cOne,wrdClasses,cCheck,cloneLv,cloneOd,lawTwin]) (stp:=[]) (inl:=[9,21,24,35,36,47,33,45,25,11]) (unr:=false) (cons_ok linPieces_ok (cons_ok linScan_ok (cons_ok wrdBlank_ok (cons_ok cNumber_ok (cons_ok cOne_ok (cons_ok wrdClasses_ok (cons_ok cCheck_ok (cons_ok cloneLv_ok (cons_ok cloneOd_ok (cons_ok lawTwin_ok nil_ok)))))))))) 300 _ _ _ _ ?_
  simp(maxSteps:=4000000)only[go_sem,reduceIte,reduceCtorEq,Z0,Z1,Z2,Z3,Z4,Z5,Z6,Z7,Z8,Z9,ZA,ZB,ZC,ZD,hw,oneN,oneP,oneM,oneF,bIEs9,nEEs9,Tryz.f9,bIEs21,nEEs21,Tryz.f21,bIEs24,nEEs24,Tryz.f24,bIEs35,nEEs35,Tryz.f35,bIEs36,nEEs36,Tryz.f36,bIEs47,nEEs47,Tryz.f47,bIEs33,nEEs33,Tryz.f33,bIEs45,nEEs45,Tryz.f45,bIEs25,nEEs25,Tryz.f25,bIEs11,nEEs11,Tryz.f11,linPieces,linScan,wrdBlank,cNumber,cOne,wrdClasses,cCheck,cloneLv,cloneOd,lawTwin]
  (repeat' first|apply And.intro|intro _|(show staB _ _=true;kernel_rfl)|(show dynB _ _=true;kernel_rfl)|(show dynP _ _ _=true;kernel_rfl))
  all_goals try first|contradiction|omega
  refine backK.mk (i+1,out++[c],(lv,od,true,true)) ⟨by dsimp only;omega,by dsimp only;omega,hfo,.inr (by dsimp only;omega)⟩ (by dsimp only;omega) ?_
  simp(maxSteps:=4000000)only[go_sem,reduceIte,reduceCtorEq,Z0,Z1,Z2,Z3,Z4,Z5,Z6,Z7,Z8,Z9,ZA,ZB,ZC,ZD,hw,hol3,hout,hcc,linPieces,linScan,wrdBlank,cNumber,cOne,wrdClasses,cCheck,cloneLv,cloneOd,lawTwin]
  all_goals first|rfl|exact hw|exact⟨rfl,rfl⟩|exact⟨⟨rfl,rfl⟩,rfl⟩|exact⟨rfl,rfl,rfl⟩|fail
 have dG:decide (few<((out.length:Int)+1))=true:=decide_eq_true hG
 have dG2:decide (few<((out.length+1:Nat):Int))=true:=decide_eq_true (by omega)
 refine run_ok (Cs:=[linPieces,linScan,wrdBlank,cNumber,cOne,wrdClasses,cCheck,cloneLv,cloneOd,lawTwin]) (stp:=[]) (inl:=[9,21,24,35,36,47,33,45,25,11]) (unr:=false) (cons_ok linPieces_ok (cons_ok linScan_ok (cons_ok wrdBlank_ok (cons_ok cNumber_ok (cons_ok cOne_ok (cons_ok wrdClasses_ok (cons_ok cCheck_ok (cons_ok cloneLv_ok (cons_ok cloneOd_ok (cons_ok lawTwin_ok nil_ok)))))))))) 300 _ _ _ _ ?_
 simp(maxSteps:=4000000)only[go_sem,reduceIte,reduceCtorEq,Z0,Z1,Z2,Z3,Z4,Z5,Z6,Z7,Z8,Z9,ZA,ZB,ZC,ZD,eT,n2,w1,dF,dG,dG2,hw,oneN,oneP,oneM,oneF,bIEs9,nEEs9,Tryz.f9,bIEs21,nEEs21,Tryz.f21,bIEs24,nEEs24,Tryz.f24,bIEs35,nEEs35,Tryz.f35,bIEs36,nEEs36,Tryz.f36,bIEs47,nEEs47,Tryz.f47,bIEs33,nEEs33,Tryz.f33,bIEs45,nEEs45,Tryz.f45,bIEs25,nEEs25,Tryz.f25,bIEs11,nEEs11,Tryz.f11,linPieces,linScan,wrdBlank,cNumber,cOne,wrdClasses,cCheck,cloneLv,cloneOd,lawTwin]
 (repeat' first|apply And.intro|intro _|(show staB _ _=true;kernel_rfl)|(show dynB _ _=true;kernel_rfl)|(show dynP _ _ _=true;kernel_rfl))
 all_goals try first|contradiction|omega
 have hpre:∃r,(casesV t).2.2=(out++[c])++r:=by
  rw[←hfo]
  exact cd_pre _ _ _ _ _
 obtain⟨r,hr⟩:=hpre
 have hlen:((casesV t).2.2.length:Int)=(out.length:Int)+1+(r.length:Int):=by rw[hr];simp;omega
 have h9:eachL few (casesV t).2.2=out++[c]:=by
  unfold eachL
  rw[if_pos ⟨by omega,by omega⟩,hr,List.take_append_of_le_length (by rw[hol3];omega)]
  exact List.take_of_length_le (by rw[hol3];omega)
 have hO:eOk few t:= .inr ⟨by omega,by omega⟩
 refine RetD.mk (fun _=>?_) (fun h=>((show _∧¬eOk few t from h).2 hO).elim)
 simp(maxSteps:=4000000)only[go_sem,reduceIte,reduceCtorEq,Z0,Z1,Z2,Z3,Z4,Z5,Z6,Z7,Z8,Z9,ZA,ZB,ZC,ZD,cEach,h9,oneN,linPieces,linScan,wrdBlank,cNumber,cOne,wrdClasses,cCheck,cloneLv,cloneOd,lawTwin]
 rw[←hcc]
 (repeat' first|apply And.intro|intro _|(show staB _ _=true;kernel_rfl)|(show dynB _ _=true;kernel_rfl)|(show dynP _ _ _=true;kernel_rfl))
 all_goals first|contradiction|omega|rfl|exact hout|exact List.take_of_length_le (by rw[hol3];exact Nat.le_refl _)|fail
theorem ea_D(file t:List UInt8)(few:Int)(x:RdS)(hz:t.length≤100000000000)(hx:EaP few t x)(hlt:x.1<(pcsV t).length)(hE:¬(pAt t x).1=(pAt t x).2.2.1)(hS:scanE (lineOf t (pAt t x))=0)(h2:¬(lAt t x).2.1=2)(h1:(lAt t x).2.1=1):eRound.1 file t few x:=by
 by_cases hq:(stC x.2.2 (lAt t x)).1=0
 ·exact eaD.2 (eaE.2 ea_J) file t few x hz hx hlt hE hS h2 h1 hq
 ·exact ea_B file t few x hz hx hlt hE hS h2 h1 hq
end Go.Proofs.YthopfpplnclanaaGreatDoor.Sx
