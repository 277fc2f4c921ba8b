/- A part of the proof. -/
import Derived.Test.YthopfpplnclanaaGreatDoorW13
import Derived.Test.YthopfpplnclanaaGreatDoorW0
import Derived.Test.YthopfpplnclanaaGreatDoorW1
import Derived.Test.YthopfpplnclanaaGreatDoorW2
import Derived.Test.YthopfpplnclanaaGreatDoorW3
import Derived.Test.YthopfpplnclanaaGreatDoorW4
import Derived.Test.YthopfpplnclanaaGreatDoorW5
import Derived.Test.YthopfpplnclanaaGreatDoorW6
import Derived.Test.YthopfpplnclanaaGreatDoorW7
import Derived.Test.YthopfpplnclanaaGreatDoorW8
import Derived.Test.YthopfpplnclanaaGreatDoorW12
namespace Go.Proofs.YthopfpplnclanaaGreatDoor.Sx
attribute [local irreducible] OkQ Ok
set_option linter.unusedSimpArgs false
set_option linter.unusedVariables false
theorem bIEr25:bodyI Tryz.prog 25=bodyF Tryz.f25:=by kernel_rfl
theorem nEEr25:isEsc Tryz.prog 25=false:=by kernel_rfl
theorem bIEr9:bodyI Tryz.prog 9=bodyF Tryz.f9:=by kernel_rfl
theorem nEEr9:isEsc Tryz.prog 9=false:=by kernel_rfl
theorem bIEr21:bodyI Tryz.prog 21=bodyF Tryz.f21:=by kernel_rfl
theorem nEEr21:isEsc Tryz.prog 21=false:=by kernel_rfl
theorem bIEr24:bodyI Tryz.prog 24=bodyF Tryz.f24:=by kernel_rfl
theorem nEEr24:isEsc Tryz.prog 24=false:=by kernel_rfl
theorem bIEr35:bodyI Tryz.prog 35=bodyF Tryz.f35:=by kernel_rfl
theorem nEEr35:isEsc Tryz.prog 35=false:=by kernel_rfl
theorem bIEr11:bodyI Tryz.prog 11=bodyF Tryz.f11:=by kernel_rfl
theorem nEEr11:isEsc Tryz.prog 11=false:=by kernel_rfl
theorem bIEr36:bodyI Tryz.prog 36=bodyF Tryz.f36:=by kernel_rfl
theorem nEEr36:isEsc Tryz.prog 36=false:=by kernel_rfl
theorem bIEr47:bodyI Tryz.prog 47=bodyF Tryz.f47:=by kernel_rfl
theorem nEEr47:isEsc Tryz.prog 47=false:=by kernel_rfl
theorem bIEr33:bodyI Tryz.prog 33=bodyF Tryz.f33:=by kernel_rfl
theorem nEEr33:isEsc Tryz.prog 33=false:=by kernel_rfl
theorem bIEr45:bodyI Tryz.prog 45=bodyF Tryz.f45:=by kernel_rfl
theorem nEEr45:isEsc Tryz.prog 45=false:=by kernel_rfl
open Nat renaming reduceEqDiff→Z0,reduceBEq→Z1,reduceAdd→Z2,reduceSub→Z3,reduceMul→Z4,reduceLeDiff→Z5
open Int renaming reduceEq→Z6,reduceLE→Z7,reduceLT→Z8,reduceNeg→Z9,reduceToNat→ZA,reduceAdd→ZB,reduceSub→ZC,reduceMul→ZD
set_option maxRecDepth 8000
set_option maxHeartbeats 40000000 in
noncomputable def eaE: {G:List UInt8→Int→List UInt8→Nat→List CD→List Int→List Int→List Int→List UInt8→PcD→LnD→List UInt8→Int→Nat→List Int→Nat→List Int→Nat→List Int→Prop // (∀file few t i out lv od cl b p l w0 e k2 ys2 k3 ys3 k4 ys4,t.length≤100000000000→i≤(pcsV t).length→out.length≤i→(few<0∨(out.length:Int)≤few)→i<(pcsV t).length→(pcsV t).length≤t.length+1→
 cdFold t (i+1+1) ((pcsV t).drop (i+1)) (lv,od,true,true) (out++[(((i+1:Nat):Int),cl,((b.getD 0 0).toNat:Int) - 48,lv,od,())])=casesV t→
 cl.length≤140737488355328→lv.length≤140737488355328→od.length≤140737488355328→G file few t i out lv od cl b p l w0 e k2 ys2 k3 ys3 k4 ys4)→∀(file:List UInt8) (few:Int) (t:List UInt8) (i:Nat) (out:List CD) (lv od cl:List Int) (b:List UInt8) (p:PcD) (l:LnD) (w0:List UInt8) (e:Int),t.length≤100000000000→i≤(pcsV t).length→out.length≤i→(few<0∨(out.length:Int)≤few)→i<(pcsV t).length→(pcsV t).length≤t.length+1→
 cdFold t (i+1+1) ((pcsV t).drop (i+1)) (lv,od,true,true) (out++[(((i+1:Nat):Int),cl,((b.getD 0 0).toNat:Int) - 48,lv,od,())])=casesV t→
 cl.length≤140737488355328→lv.length≤140737488355328→od.length≤140737488355328→eaD.1 file few t i out lv od cl b p l w0 e}:=by
 apply Subtype.mk
 case property=>
 intro hG file few t i out lv od cl b p l w0 e hz hi hol hfw hlt hpl hfo hcl hlv hod
 unfold eaD
 dsimp only
 have eT:elT Tryz.prog 23=some 37:=by kernel_rfl
 have n1:decide ((0:Int)<((1:Nat):Int))=true:=by decide
 refine OkQ.unroll1 ?_
 refine run_ok (Cs:=[linPieces,linScan,wrdBlank,cNumber,cOne,wrdClasses,cCheck,cloneLv,cloneOd,lawTwin]) (stp:=[]) (inl:=[9,21,24,35,36,47,33,45,25,11]) (unr:=false) (cons_ok linPieces_ok (cons_ok linScan_ok (cons_ok wrdBlank_ok (cons_ok cNumber_ok (cons_ok cOne_ok (cons_ok wrdClasses_ok (cons_ok cCheck_ok (cons_ok cloneLv_ok (cons_ok cloneOd_ok (cons_ok lawTwin_ok nil_ok)))))))))) 40 _ _ _ _ ?_
 simp(maxSteps:=4000000)only[go_sem,reduceIte,reduceCtorEq,Z0,Z1,Z2,Z3,Z4,Z5,Z6,Z7,Z8,Z9,ZA,ZB,ZC,ZD,eT,n1,oneN,oneP,oneM,oneF,bIEr9,nEEr9,Tryz.f9,bIEr21,nEEr21,Tryz.f21,bIEr24,nEEr24,Tryz.f24,bIEr35,nEEr35,Tryz.f35,bIEr36,nEEr36,Tryz.f36,bIEr47,nEEr47,Tryz.f47,bIEr33,nEEr33,Tryz.f33,bIEr45,nEEr45,Tryz.f45,bIEr25,nEEr25,Tryz.f25,bIEr11,nEEr11,Tryz.f11,linPieces,linScan,wrdBlank,cNumber,cOne,wrdClasses,cCheck,cloneLv,cloneOd,lawTwin]
 refine OkQ.loop (α:=Nat×List Int) [1,3,4,5,6,7,8,9,10,11,12,13,14,15,16,17,18,19,20,21,22,23,24,25,26,27,28,29,30,31,32,33,34,35,36,37,38,39,40,41,42,43,44,45,46,47,48,49,50,51,52,53,54,55,56,57,58,59,60,61,62,63,64,65,66] (fun x=>[(3,.s (.int .i64 (x.1:Int)))]) (fun x=>[(30,.arr false 1 (.int .u8) x.2)]) (fun x=>x.1≤cl.length∧x.2.length=cl.length) (fun x=>cl.length - x.1) (0,cl) ⟨Nat.zero_le _,rfl⟩ ?_ fun x hx=>?_
 ·simp(maxSteps:=4000000)only[go_sem,reduceIte,reduceCtorEq,Z0,Z1,Z2,Z3,Z4,Z5,Z6,Z7,Z8,Z9,ZA,ZB,ZC,ZD,oneN,oneP,oneM,oneF,bIEr9,nEEr9,Tryz.f9,bIEr21,nEEr21,Tryz.f21,bIEr24,nEEr24,Tryz.f24,bIEr35,nEEr35,Tryz.f35,bIEr36,nEEr36,Tryz.f36,bIEr47,nEEr47,Tryz.f47,bIEr33,nEEr33,Tryz.f33,bIEr45,nEEr45,Tryz.f45,bIEr25,nEEr25,Tryz.f25,bIEr11,nEEr11,Tryz.f11,linPieces,linScan,wrdBlank,cNumber,cOne,wrdClasses,cCheck,cloneLv,cloneOd,lawTwin]
  all_goals first|rfl|exact⟨rfl,rfl⟩|fail
 obtain⟨k2,ys2⟩:=x
 obtain⟨hk2,hys2⟩:=hx
 dsimp only at hk2 hys2 ⊢
 refine run_ok (Cs:=[linPieces,linScan,wrdBlank,cNumber,cOne,wrdClasses,cCheck,cloneLv,cloneOd,lawTwin]) (stp:=[]) (inl:=[9,21,24,35,36,47,33,45,25,11]) (unr:=false) (cons_ok linPieces_ok (cons_ok linScan_ok (cons_ok wrdBlank_ok (cons_ok cNumber_ok (cons_ok cOne_ok (cons_ok wrdClasses_ok (cons_ok cCheck_ok (cons_ok cloneLv_ok (cons_ok cloneOd_ok (cons_ok lawTwin_ok nil_ok)))))))))) 20 _ _ _ _ ?_
 simp(maxSteps:=4000000)only[go_sem,reduceIte,reduceCtorEq,Z0,Z1,Z2,Z3,Z4,Z5,Z6,Z7,Z8,Z9,ZA,ZB,ZC,ZD,eT,oneN,oneP,oneM,oneF,bIEr9,nEEr9,Tryz.f9,bIEr21,nEEr21,Tryz.f21,bIEr24,nEEr24,Tryz.f24,bIEr35,nEEr35,Tryz.f35,bIEr36,nEEr36,Tryz.f36,bIEr47,nEEr47,Tryz.f47,bIEr33,nEEr33,Tryz.f33,bIEr45,nEEr45,Tryz.f45,bIEr25,nEEr25,Tryz.f25,bIEr11,nEEr11,Tryz.f11,linPieces,linScan,wrdBlank,cNumber,cOne,wrdClasses,cCheck,cloneLv,cloneOd,lawTwin]
 refine OkQ.opX (u:=⟨.s (.pb 40 0),[],41⟩) (by kernel_rfl) rfl ?_
 rcases Nat.lt_or_ge k2 cl.length with hlk|hgk
 ·have dl:decide ((k2:Int)<(cl.length:Int))=true:=decide_eq_true (by omega)
  have hw:wr .i64 ((k2:Int)+1)=((k2+1:Nat):Int):=wr_nxt (by omega)
  refine run_ok (Cs:=[linPieces,linScan,wrdBlank,cNumber,cOne,wrdClasses,cCheck,cloneLv,cloneOd,lawTwin]) (stp:=[]) (inl:=[9,21,24,35,36,47,33,45,25,11]) (unr:=false) (cons_ok linPieces_ok (cons_ok linScan_ok (cons_ok wrdBlank_ok (cons_ok cNumber_ok (cons_ok cOne_ok (cons_ok wrdClasses_ok (cons_ok cCheck_ok (cons_ok cloneLv_ok (cons_ok cloneOd_ok (cons_ok lawTwin_ok nil_ok)))))))))) 40 _ _ _ _ ?_
  simp(maxSteps:=4000000)only[go_sem,reduceIte,reduceCtorEq,Z0,Z1,Z2,Z3,Z4,Z5,Z6,Z7,Z8,Z9,ZA,ZB,ZC,ZD,dl,oneN,oneP,oneM,oneF,bIEr9,nEEr9,Tryz.f9,bIEr21,nEEr21,Tryz.f21,bIEr24,nEEr24,Tryz.f24,bIEr35,nEEr35,Tryz.f35,bIEr36,nEEr36,Tryz.f36,bIEr47,nEEr47,Tryz.f47,bIEr33,nEEr33,Tryz.f33,bIEr45,nEEr45,Tryz.f45,bIEr25,nEEr25,Tryz.f25,bIEr11,nEEr11,Tryz.f11,linPieces,linScan,wrdBlank,cNumber,cOne,wrdClasses,cCheck,cloneLv,cloneOd,lawTwin]
  refine OkQ.opX (u:=⟨.s (.pb 40 0),[],41⟩) (by kernel_rfl) rfl ?_
  refine run_ok (Cs:=[linPieces,linScan,wrdBlank,cNumber,cOne,wrdClasses,cCheck,cloneLv,cloneOd,lawTwin]) (stp:=[]) (inl:=[9,21,24,35,36,47,33,45,25,11]) (unr:=false) (cons_ok linPieces_ok (cons_ok linScan_ok (cons_ok wrdBlank_ok (cons_ok cNumber_ok (cons_ok cOne_ok (cons_ok wrdClasses_ok (cons_ok cCheck_ok (cons_ok cloneLv_ok (cons_ok cloneOd_ok (cons_ok lawTwin_ok nil_ok)))))))))) 40 _ _ _ _ ?_
  simp(maxSteps:=4000000)only[go_sem,reduceIte,reduceCtorEq,Z0,Z1,Z2,Z3,Z4,Z5,Z6,Z7,Z8,Z9,ZA,ZB,ZC,ZD,dl,hw,oneN,oneP,oneM,oneF,bIEr9,nEEr9,Tryz.f9,bIEr21,nEEr21,Tryz.f21,bIEr24,nEEr24,Tryz.f24,bIEr35,nEEr35,Tryz.f35,bIEr36,nEEr36,Tryz.f36,bIEr47,nEEr47,Tryz.f47,bIEr33,nEEr33,Tryz.f33,bIEr45,nEEr45,Tryz.f45,bIEr25,nEEr25,Tryz.f25,bIEr11,nEEr11,Tryz.f11,linPieces,linScan,wrdBlank,cNumber,cOne,wrdClasses,cCheck,cloneLv,cloneOd,lawTwin]
  exact⟨⟨by omega,by omega⟩,(k2+1,ys2.set k2 (99)),⟨by dsimp only;omega,by dsimp only;rw[List.length_set];exact hys2⟩,by dsimp only;omega,rfl,rfl,rfl⟩
 have dl:decide ((k2:Int)<(cl.length:Int))=false:=decide_eq_false (by omega)
 refine run_ok (Cs:=[linPieces,linScan,wrdBlank,cNumber,cOne,wrdClasses,cCheck,cloneLv,cloneOd,lawTwin]) (stp:=[]) (inl:=[9,21,24,35,36,47,33,45,25,11]) (unr:=false) (cons_ok linPieces_ok (cons_ok linScan_ok (cons_ok wrdBlank_ok (cons_ok cNumber_ok (cons_ok cOne_ok (cons_ok wrdClasses_ok (cons_ok cCheck_ok (cons_ok cloneLv_ok (cons_ok cloneOd_ok (cons_ok lawTwin_ok nil_ok)))))))))) 40 _ _ _ _ ?_
 simp(maxSteps:=4000000)only[go_sem,reduceIte,reduceCtorEq,Z0,Z1,Z2,Z3,Z4,Z5,Z6,Z7,Z8,Z9,ZA,ZB,ZC,ZD,dl,oneN,oneP,oneM,oneF,bIEr9,nEEr9,Tryz.f9,bIEr21,nEEr21,Tryz.f21,bIEr24,nEEr24,Tryz.f24,bIEr35,nEEr35,Tryz.f35,bIEr36,nEEr36,Tryz.f36,bIEr47,nEEr47,Tryz.f47,bIEr33,nEEr33,Tryz.f33,bIEr45,nEEr45,Tryz.f45,bIEr25,nEEr25,Tryz.f25,bIEr11,nEEr11,Tryz.f11,linPieces,linScan,wrdBlank,cNumber,cOne,wrdClasses,cCheck,cloneLv,cloneOd,lawTwin]
 refine OkQ.loop (α:=Nat×List Int) [1,3,4,5,6,7,8,9,10,11,12,13,14,15,16,17,18,19,20,21,22,23,24,25,26,27,28,29,30,31,32,33,34,35,36,37,38,39,40,41,42,43,44,45,46,47,48,49,50,51,52,53,54,55,56,57,58,59,60,61,62,63,64,65,66] (fun x=>[(4,.s (.int .i64 (x.1:Int)))]) (fun x=>[(31,.arr false 1 (.int .i8) x.2)]) (fun x=>x.1≤lv.length∧x.2.length=lv.length) (fun x=>lv.length - x.1) (0,lv) ⟨Nat.zero_le _,rfl⟩ ?_ fun x hx=>?_
 ·simp(maxSteps:=4000000)only[go_sem,reduceIte,reduceCtorEq,Z0,Z1,Z2,Z3,Z4,Z5,Z6,Z7,Z8,Z9,ZA,ZB,ZC,ZD,oneN,oneP,oneM,oneF,bIEr9,nEEr9,Tryz.f9,bIEr21,nEEr21,Tryz.f21,bIEr24,nEEr24,Tryz.f24,bIEr35,nEEr35,Tryz.f35,bIEr36,nEEr36,Tryz.f36,bIEr47,nEEr47,Tryz.f47,bIEr33,nEEr33,Tryz.f33,bIEr45,nEEr45,Tryz.f45,bIEr25,nEEr25,Tryz.f25,bIEr11,nEEr11,Tryz.f11,linPieces,linScan,wrdBlank,cNumber,cOne,wrdClasses,cCheck,cloneLv,cloneOd,lawTwin]
  all_goals first|rfl|exact⟨rfl,rfl⟩|fail
 obtain⟨k3,ys3⟩:=x
 obtain⟨hk3,hys3⟩:=hx
 dsimp only at hk3 hys3 ⊢
 refine run_ok (Cs:=[linPieces,linScan,wrdBlank,cNumber,cOne,wrdClasses,cCheck,cloneLv,cloneOd,lawTwin]) (stp:=[]) (inl:=[9,21,24,35,36,47,33,45,25,11]) (unr:=false) (cons_ok linPieces_ok (cons_ok linScan_ok (cons_ok wrdBlank_ok (cons_ok cNumber_ok (cons_ok cOne_ok (cons_ok wrdClasses_ok (cons_ok cCheck_ok (cons_ok cloneLv_ok (cons_ok cloneOd_ok (cons_ok lawTwin_ok nil_ok)))))))))) 20 _ _ _ _ ?_
 simp(maxSteps:=4000000)only[go_sem,reduceIte,reduceCtorEq,Z0,Z1,Z2,Z3,Z4,Z5,Z6,Z7,Z8,Z9,ZA,ZB,ZC,ZD,eT,oneN,oneP,oneM,oneF,bIEr9,nEEr9,Tryz.f9,bIEr21,nEEr21,Tryz.f21,bIEr24,nEEr24,Tryz.f24,bIEr35,nEEr35,Tryz.f35,bIEr36,nEEr36,Tryz.f36,bIEr47,nEEr47,Tryz.f47,bIEr33,nEEr33,Tryz.f33,bIEr45,nEEr45,Tryz.f45,bIEr25,nEEr25,Tryz.f25,bIEr11,nEEr11,Tryz.f11,linPieces,linScan,wrdBlank,cNumber,cOne,wrdClasses,cCheck,cloneLv,cloneOd,lawTwin]
 refine OkQ.opX (u:=⟨.s (.pb 40 0),[],41⟩) (by kernel_rfl) rfl ?_
 rcases Nat.lt_or_ge k3 lv.length with hlk|hgk
 ·have dl:decide ((k3:Int)<(lv.length:Int))=true:=decide_eq_true (by omega)
  have hw:wr .i64 ((k3:Int)+1)=((k3+1:Nat):Int):=wr_nxt (by omega)
  refine run_ok (Cs:=[linPieces,linScan,wrdBlank,cNumber,cOne,wrdClasses,cCheck,cloneLv,cloneOd,lawTwin]) (stp:=[]) (inl:=[9,21,24,35,36,47,33,45,25,11]) (unr:=false) (cons_ok linPieces_ok (cons_ok linScan_ok (cons_ok wrdBlank_ok (cons_ok cNumber_ok (cons_ok cOne_ok (cons_ok wrdClasses_ok (cons_ok cCheck_ok (cons_ok cloneLv_ok (cons_ok cloneOd_ok (cons_ok lawTwin_ok nil_ok)))))))))) 40 _ _ _ _ ?_
  simp(maxSteps:=4000000)only[go_sem,reduceIte,reduceCtorEq,Z0,Z1,Z2,Z3,Z4,Z5,Z6,Z7,Z8,Z9,ZA,ZB,ZC,ZD,dl,oneN,oneP,oneM,oneF,bIEr9,nEEr9,Tryz.f9,bIEr21,nEEr21,Tryz.f21,bIEr24,nEEr24,Tryz.f24,bIEr35,nEEr35,Tryz.f35,bIEr36,nEEr36,Tryz.f36,bIEr47,nEEr47,Tryz.f47,bIEr33,nEEr33,Tryz.f33,bIEr45,nEEr45,Tryz.f45,bIEr25,nEEr25,Tryz.f25,bIEr11,nEEr11,Tryz.f11,linPieces,linScan,wrdBlank,cNumber,cOne,wrdClasses,cCheck,cloneLv,cloneOd,lawTwin]
  refine OkQ.opX (u:=⟨.s (.pb 40 0),[],41⟩) (by kernel_rfl) rfl ?_
  refine run_ok (Cs:=[linPieces,linScan,wrdBlank,cNumber,cOne,wrdClasses,cCheck,cloneLv,cloneOd,lawTwin]) (stp:=[]) (inl:=[9,21,24,35,36,47,33,45,25,11]) (unr:=false) (cons_ok linPieces_ok (cons_ok linScan_ok (cons_ok wrdBlank_ok (cons_ok cNumber_ok (cons_ok cOne_ok (cons_ok wrdClasses_ok (cons_ok cCheck_ok (cons_ok cloneLv_ok (cons_ok cloneOd_ok (cons_ok lawTwin_ok nil_ok)))))))))) 40 _ _ _ _ ?_
  simp(maxSteps:=4000000)only[go_sem,reduceIte,reduceCtorEq,Z0,Z1,Z2,Z3,Z4,Z5,Z6,Z7,Z8,Z9,ZA,ZB,ZC,ZD,dl,hw,oneN,oneP,oneM,oneF,bIEr9,nEEr9,Tryz.f9,bIEr21,nEEr21,Tryz.f21,bIEr24,nEEr24,Tryz.f24,bIEr35,nEEr35,Tryz.f35,bIEr36,nEEr36,Tryz.f36,bIEr47,nEEr47,Tryz.f47,bIEr33,nEEr33,Tryz.f33,bIEr45,nEEr45,Tryz.f45,bIEr25,nEEr25,Tryz.f25,bIEr11,nEEr11,Tryz.f11,linPieces,linScan,wrdBlank,cNumber,cOne,wrdClasses,cCheck,cloneLv,cloneOd,lawTwin]
  exact⟨⟨by omega,by omega⟩,(k3+1,ys3.set k3 (99)),⟨by dsimp only;omega,by dsimp only;rw[List.length_set];exact hys3⟩,by dsimp only;omega,rfl,rfl,rfl⟩
 have dl:decide ((k3:Int)<(lv.length:Int))=false:=decide_eq_false (by omega)
 refine run_ok (Cs:=[linPieces,linScan,wrdBlank,cNumber,cOne,wrdClasses,cCheck,cloneLv,cloneOd,lawTwin]) (stp:=[]) (inl:=[9,21,24,35,36,47,33,45,25,11]) (unr:=false) (cons_ok linPieces_ok (cons_ok linScan_ok (cons_ok wrdBlank_ok (cons_ok cNumber_ok (cons_ok cOne_ok (cons_ok wrdClasses_ok (cons_ok cCheck_ok (cons_ok cloneLv_ok (cons_ok cloneOd_ok (cons_ok lawTwin_ok nil_ok)))))))))) 40 _ _ _ _ ?_
 simp(maxSteps:=4000000)only[go_sem,reduceIte,reduceCtorEq,Z0,Z1,Z2,Z3,Z4,Z5,Z6,Z7,Z8,Z9,ZA,ZB,ZC,ZD,dl,oneN,oneP,oneM,oneF,bIEr9,nEEr9,Tryz.f9,bIEr21,nEEr21,Tryz.f21,bIEr24,nEEr24,Tryz.f24,bIEr35,nEEr35,Tryz.f35,bIEr36,nEEr36,Tryz.f36,bIEr47,nEEr47,Tryz.f47,bIEr33,nEEr33,Tryz.f33,bIEr45,nEEr45,Tryz.f45,bIEr25,nEEr25,Tryz.f25,bIEr11,nEEr11,Tryz.f11,linPieces,linScan,wrdBlank,cNumber,cOne,wrdClasses,cCheck,cloneLv,cloneOd,lawTwin]
 refine OkQ.loop (α:=Nat×List Int) [1,3,4,5,6,7,8,9,10,11,12,13,14,15,16,17,18,19,20,21,22,23,24,25,26,27,28,29,30,31,32,33,34,35,36,37,38,39,40,41,42,43,44,45,46,47,48,49,50,51,52,53,54,55,56,57,58,59,60,61,62,63,64,65,66] (fun x=>[(5,.s (.int .i64 (x.1:Int)))]) (fun x=>[(32,.arr false 8 (.int .i64) x.2)]) (fun x=>x.1≤od.length∧x.2.length=od.length) (fun x=>od.length - x.1) (0,od) ⟨Nat.zero_le _,rfl⟩ ?_ fun x hx=>?_
 ·simp(maxSteps:=4000000)only[go_sem,reduceIte,reduceCtorEq,Z0,Z1,Z2,Z3,Z4,Z5,Z6,Z7,Z8,Z9,ZA,ZB,ZC,ZD,oneN,oneP,oneM,oneF,bIEr9,nEEr9,Tryz.f9,bIEr21,nEEr21,Tryz.f21,bIEr24,nEEr24,Tryz.f24,bIEr35,nEEr35,Tryz.f35,bIEr36,nEEr36,Tryz.f36,bIEr47,nEEr47,Tryz.f47,bIEr33,nEEr33,Tryz.f33,bIEr45,nEEr45,Tryz.f45,bIEr25,nEEr25,Tryz.f25,bIEr11,nEEr11,Tryz.f11,linPieces,linScan,wrdBlank,cNumber,cOne,wrdClasses,cCheck,cloneLv,cloneOd,lawTwin]
  all_goals first|rfl|exact⟨rfl,rfl⟩|fail
 obtain⟨k4,ys4⟩:=x
 obtain⟨hk4,hys4⟩:=hx
 dsimp only at hk4 hys4 ⊢
 refine run_ok (Cs:=[linPieces,linScan,wrdBlank,cNumber,cOne,wrdClasses,cCheck,cloneLv,cloneOd,lawTwin]) (stp:=[]) (inl:=[9,21,24,35,36,47,33,45,25,11]) (unr:=false) (cons_ok linPieces_ok (cons_ok linScan_ok (cons_ok wrdBlank_ok (cons_ok cNumber_ok (cons_ok cOne_ok (cons_ok wrdClasses_ok (cons_ok cCheck_ok (cons_ok cloneLv_ok (cons_ok cloneOd_ok (cons_ok lawTwin_ok nil_ok)))))))))) 20 _ _ _ _ ?_
 simp(maxSteps:=4000000)only[go_sem,reduceIte,reduceCtorEq,Z0,Z1,Z2,Z3,Z4,Z5,Z6,Z7,Z8,Z9,ZA,ZB,ZC,ZD,eT,oneN,oneP,oneM,oneF,bIEr9,nEEr9,Tryz.f9,bIEr21,nEEr21,Tryz.f21,bIEr24,nEEr24,Tryz.f24,bIEr35,nEEr35,Tryz.f35,bIEr36,nEEr36,Tryz.f36,bIEr47,nEEr47,Tryz.f47,bIEr33,nEEr33,Tryz.f33,bIEr45,nEEr45,Tryz.f45,bIEr25,nEEr25,Tryz.f25,bIEr11,nEEr11,Tryz.f11,linPieces,linScan,wrdBlank,cNumber,cOne,wrdClasses,cCheck,cloneLv,cloneOd,lawTwin]
 refine OkQ.opX (u:=⟨.s (.pb 40 0),[],41⟩) (by kernel_rfl) rfl ?_
 rcases Nat.lt_or_ge k4 od.length with hlk|hgk
 ·have dl:decide ((k4:Int)<(od.length:Int))=true:=decide_eq_true (by omega)
  have hw:wr .i64 ((k4:Int)+1)=((k4+1:Nat):Int):=wr_nxt (by omega)
  refine run_ok (Cs:=[linPieces,linScan,wrdBlank,cNumber,cOne,wrdClasses,cCheck,cloneLv,cloneOd,lawTwin]) (stp:=[]) (inl:=[9,21,24,35,36,47,33,45,25,11]) (unr:=false) (cons_ok linPieces_ok (cons_ok linScan_ok (cons_ok wrdBlank_ok (cons_ok cNumber_ok (cons_ok cOne_ok (cons_ok wrdClasses_ok (cons_ok cCheck_ok (cons_ok cloneLv_ok (cons_ok cloneOd_ok (cons_ok lawTwin_ok nil_ok)))))))))) 40 _ _ _ _ ?_
  simp(maxSteps:=4000000)only[go_sem,reduceIte,reduceCtorEq,Z0,Z1,Z2,Z3,Z4,Z5,Z6,Z7,Z8,Z9,ZA,ZB,ZC,ZD,dl,oneN,oneP,oneM,oneF,bIEr9,nEEr9,Tryz.f9,bIEr21,nEEr21,Tryz.f21,bIEr24,nEEr24,Tryz.f24,bIEr35,nEEr35,Tryz.f35,bIEr36,nEEr36,Tryz.f36,bIEr47,nEEr47,Tryz.f47,bIEr33,nEEr33,Tryz.f33,bIEr45,nEEr45,Tryz.f45,bIEr25,nEEr25,Tryz.f25,bIEr11,nEEr11,Tryz.f11,linPieces,linScan,wrdBlank,cNumber,cOne,wrdClasses,cCheck,cloneLv,cloneOd,lawTwin]
  refine OkQ.opX (u:=⟨.s (.pb 40 0),[],41⟩) (by kernel_rfl) rfl ?_
  refine run_ok (Cs:=[linPieces,linScan,wrdBlank,cNumber,cOne,wrdClasses,cCheck,cloneLv,cloneOd,lawTwin]) (stp:=[]) (inl:=[9,21,24,35,36,47,33,45,25,11]) (unr:=false) (cons_ok linPieces_ok (cons_ok linScan_ok (cons_ok wrdBlank_ok (cons_ok cNumber_ok (cons_ok cOne_ok (cons_ok wrdClasses_ok (cons_ok cCheck_ok (cons_ok cloneLv_ok (cons_ok cloneOd_ok (cons_ok lawTwin_ok nil_ok)))))))))) 40 _ _ _ _ ?_
  simp(maxSteps:=4000000)only[go_sem,reduceIte,reduceCtorEq,Z0,Z1,Z2,Z3,Z4,Z5,Z6,Z7,Z8,Z9,ZA,ZB,ZC,ZD,dl,hw,oneN,oneP,oneM,oneF,bIEr9,nEEr9,Tryz.f9,bIEr21,nEEr21,Tryz.f21,bIEr24,nEEr24,Tryz.f24,bIEr35,nEEr35,Tryz.f35,bIEr36,nEEr36,Tryz.f36,bIEr47,nEEr47,Tryz.f47,bIEr33,nEEr33,Tryz.f33,bIEr45,nEEr45,Tryz.f45,bIEr25,nEEr25,Tryz.f25,bIEr11,nEEr11,Tryz.f11,linPieces,linScan,wrdBlank,cNumber,cOne,wrdClasses,cCheck,cloneLv,cloneOd,lawTwin]
  exact⟨⟨by omega,by omega⟩,(k4+1,ys4.set k4 (-99)),⟨by dsimp only;omega,by dsimp only;rw[List.length_set];exact hys4⟩,by dsimp only;omega,rfl,rfl,rfl⟩
 have dl:decide ((k4:Int)<(od.length:Int))=false:=decide_eq_false (by omega)
 refine run_ok (Cs:=[linPieces,linScan,wrdBlank,cNumber,cOne,wrdClasses,cCheck,cloneLv,cloneOd,lawTwin]) (stp:=[]) (inl:=[9,21,24,35,36,47,33,45,25,11]) (unr:=false) (cons_ok linPieces_ok (cons_ok linScan_ok (cons_ok wrdBlank_ok (cons_ok cNumber_ok (cons_ok cOne_ok (cons_ok wrdClasses_ok (cons_ok cCheck_ok (cons_ok cloneLv_ok (cons_ok cloneOd_ok (cons_ok lawTwin_ok nil_ok)))))))))) 40 _ _ _ _ ?_
 simp(maxSteps:=4000000)only[go_sem,reduceIte,reduceCtorEq,Z0,Z1,Z2,Z3,Z4,Z5,Z6,Z7,Z8,Z9,ZA,ZB,ZC,ZD,dl,oneN,oneP,oneM,oneF,bIEr9,nEEr9,Tryz.f9,bIEr21,nEEr21,Tryz.f21,bIEr24,nEEr24,Tryz.f24,bIEr35,nEEr35,Tryz.f35,bIEr36,nEEr36,Tryz.f36,bIEr47,nEEr47,Tryz.f47,bIEr33,nEEr33,Tryz.f33,bIEr45,nEEr45,Tryz.f45,bIEr25,nEEr25,Tryz.f25,bIEr11,nEEr11,Tryz.f11,linPieces,linScan,wrdBlank,cNumber,cOne,wrdClasses,cCheck,cloneLv,cloneOd,lawTwin]
 refine OkQ.opX (u:=⟨.s (.pb 40 0),[],41⟩) (by kernel_rfl) rfl ?_
 have n2:decide ((1:Int)<((1:Nat):Int))=false:=by decide
 refine run_ok (Cs:=[linPieces,linScan,wrdBlank,cNumber,cOne,wrdClasses,cCheck,cloneLv,cloneOd,lawTwin]) (stp:=[]) (inl:=[9,21,24,35,36,47,33,45,25,11]) (unr:=false) (cons_ok linPieces_ok (cons_ok linScan_ok (cons_ok wrdBlank_ok (cons_ok cNumber_ok (cons_ok cOne_ok (cons_ok wrdClasses_ok (cons_ok cCheck_ok (cons_ok cloneLv_ok (cons_ok cloneOd_ok (cons_ok lawTwin_ok nil_ok)))))))))) 5 _ _ _ _ ?_
 simp(maxSteps:=4000000)only[go_sem,reduceIte,reduceCtorEq,Z0,Z1,Z2,Z3,Z4,Z5,Z6,Z7,Z8,Z9,ZA,ZB,ZC,ZD,eT,n2,oneN,oneP,oneM,oneF,bIEr9,nEEr9,Tryz.f9,bIEr21,nEEr21,Tryz.f21,bIEr24,nEEr24,Tryz.f24,bIEr35,nEEr35,Tryz.f35,bIEr36,nEEr36,Tryz.f36,bIEr47,nEEr47,Tryz.f47,bIEr33,nEEr33,Tryz.f33,bIEr45,nEEr45,Tryz.f45,bIEr25,nEEr25,Tryz.f25,bIEr11,nEEr11,Tryz.f11,linPieces,linScan,wrdBlank,cNumber,cOne,wrdClasses,cCheck,cloneLv,cloneOd,lawTwin]
 exact hG file few t i out lv od cl b p l w0 e k2 ys2 k3 ys3 k4 ys4 hz hi hol hfw hlt hpl hfo hcl hlv hod
end Go.Proofs.YthopfpplnclanaaGreatDoor.Sx
