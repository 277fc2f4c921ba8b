/- A part of the proof. -/
import Derived.Test.YthopfpplnclanaaGreatDoorW8
import Derived.Test.YthopfpplnclanaaGreatDoorW12
import Derived.Test.YthopfpplnclanaaGreatDoorW0
import Derived.Test.YthopfpplnclanaaGreatDoorW1
import Derived.Test.YthopfpplnclanaaGreatDoorW2
import Derived.Test.YthopfpplnclanaaGreatDoorW3
import Derived.Test.YthopfpplnclanaaGreatDoorW4
import Derived.Test.YthopfpplnclanaaGreatDoorW5
import Derived.Test.YthopfpplnclanaaGreatDoorW6
import Derived.Test.YthopfpplnclanaaGreatDoorW7
namespace Go.Proofs.YthopfpplnclanaaGreatDoor.Sx
attribute [local irreducible] OkQ Ok
set_option linter.unusedSimpArgs false
set_option linter.unusedVariables false
theorem bIEp25:bodyI Tryz.prog 25=bodyF Tryz.f25:=by kernel_rfl
theorem nEEp25:isEsc Tryz.prog 25=false:=by kernel_rfl
theorem bIEp9:bodyI Tryz.prog 9=bodyF Tryz.f9:=by kernel_rfl
theorem nEEp9:isEsc Tryz.prog 9=false:=by kernel_rfl
theorem bIEp21:bodyI Tryz.prog 21=bodyF Tryz.f21:=by kernel_rfl
theorem nEEp21:isEsc Tryz.prog 21=false:=by kernel_rfl
theorem bIEp24:bodyI Tryz.prog 24=bodyF Tryz.f24:=by kernel_rfl
theorem nEEp24:isEsc Tryz.prog 24=false:=by kernel_rfl
theorem bIEp35:bodyI Tryz.prog 35=bodyF Tryz.f35:=by kernel_rfl
theorem nEEp35:isEsc Tryz.prog 35=false:=by kernel_rfl
theorem bIEp11:bodyI Tryz.prog 11=bodyF Tryz.f11:=by kernel_rfl
theorem nEEp11:isEsc Tryz.prog 11=false:=by kernel_rfl
theorem bIEp36:bodyI Tryz.prog 36=bodyF Tryz.f36:=by kernel_rfl
theorem nEEp36:isEsc Tryz.prog 36=false:=by kernel_rfl
theorem bIEp47:bodyI Tryz.prog 47=bodyF Tryz.f47:=by kernel_rfl
theorem nEEp47:isEsc Tryz.prog 47=false:=by kernel_rfl
theorem bIEp33:bodyI Tryz.prog 33=bodyF Tryz.f33:=by kernel_rfl
theorem nEEp33:isEsc Tryz.prog 33=false:=by kernel_rfl
theorem bIEp45:bodyI Tryz.prog 45=bodyF Tryz.f45:=by kernel_rfl
theorem nEEp45:isEsc Tryz.prog 45=false:=by kernel_rfl
open Nat renaming reduceEqDiff→Z0,reduceBEq→Z1,reduceAdd→Z2,reduceSub→Z3,reduceMul→Z4,reduceLeDiff→Z5
open Int renaming reduceEq→Z6,reduceLE→Z7,reduceLT→Z8,reduceNeg→Z9,reduceToNat→ZA,reduceAdd→ZB,reduceSub→ZC,reduceMul→ZD
set_option maxRecDepth 8000
set_option maxHeartbeats 40000000 in
noncomputable def eaD: {G:List UInt8→Int→List UInt8→Nat→List CD→List Int→List Int→List Int→List UInt8→PcD→LnD→List UInt8→Int→Prop // (∀file few t i out lv od cl b p l w0 e,t.length≤100000000000→i≤(pcsV t).length→out.length≤i→(few<0∨(out.length:Int)≤few)→i<(pcsV t).length→(pcsV t).length≤t.length+1→
 cdFold t (i+1+1) ((pcsV t).drop (i+1)) (lv,od,true,true) (out++[(((i+1:Nat):Int),cl,((b.getD 0 0).toNat:Int) - 48,lv,od,())])=casesV t→
 cl.length≤140737488355328→lv.length≤140737488355328→od.length≤140737488355328→G file few t i out lv od cl b p l w0 e)→∀(file t:List UInt8) (few:Int) (x:RdS) (hz:t.length≤100000000000) (hx:EaP few t x) (hlt:x.1<(pcsV t).length) (hE:¬(pAt t x).1=(pAt t x).2.2.1) (hS:scanE (lineOf t (pAt t x))=0) (h2:¬(lAt t x).2.1=2) (h1:(lAt t x).2.1=1) (hq0:(stC x.2.2 (lAt t x)).1=0),eRound.1 file t few x}:=by
 apply Subtype.mk
 case property=>
 intro hG file t few x hz hx hlt hE hS h2 h1 hq0
 unfold eRound
 dsimp only
 obtain⟨i,out,lv,od,wn,tn⟩:=x
 obtain⟨hi,hol,hfo,hfw⟩:=hx
 dsimp only[pAt,lAt]at hi hol hfo hfw hlt hE hS h2 h1 hq0 ⊢
 have hpl:(pcsV t).length≤t.length+1:=by
  have:=pcs_len t (t.length+1) (bomN t) (bom_len t)
  unfold pcsV
  omega
 have hout:List.take out.length out=out:=List.take_length
 obtain⟨hdr,q0,q1,q2⟩:=pcd_at hlt
 have cA:(pcsV t).getD i (0,0,0,())=(pcsV t).getD i pcdZ:=rfl
 generalize (pcsV t).getD i pcdZ=p at*
 have dl:decide ((i:Int)<((pcsV t).length:Int))=true:=decide_eq_true (by omega)
 rw[hdr,cdFold]at hfo
 have hw:wr .i64 ((i:Int)+1)=((i+1:Nat):Int):=wr_succ (by omega)
 have dE:decide (p.1=p.2.2.1)=false:=decide_eq_false hE
 rw[if_neg hE]at hfo
 have hl:List.take (p.2.1.toNat - p.1.toNat) (List.drop p.1.toNat t)=lineOf t p:=by
  unfold lineOf
  congr 1
  omega
 have hll:(lineOf t p).length≤t.length:=by unfold lineOf;simp;omega
 have dS:decide (scanE (lineOf t p)=0)=true:=decide_eq_true hS
 have hv:scanV ((i+1:Nat):Int) (lineOf t p)=partsV ((i+1:Nat):Int) (lineOf t p):=if_pos hS
 rw[if_neg (by simp[hS])]at hfo
 obtain⟨l,hld⟩:∃l,l=partsV ((i+1:Nat):Int) (lineOf t p):=⟨_,rfl⟩
 rw[←hld]at hfo hv h2 h1 hq0
 have hno:l.1=((i+1:Nat):Int):=by rw[hld];exact parts_no _ _
 have d2:decide (l.2.1=2)=false:=decide_eq_false h2
 have d1:decide (l.2.1=1)=true:=decide_eq_true h1
 obtain⟨w0,hw0⟩:∃w0,w0=List.getD l.2.2.2.1 0 []:=⟨_,rfl⟩
 obtain⟨b,hb⟩:∃b,b=List.getD l.2.2.2.1 1 []:=⟨_,rfl⟩
 have f0:fld l 0=w0:=hw0.symm
 have f1:fld l 1=b:=hb.symm
 have hw0l:w0.length≤t.length:=by
  rw[hw0,List.getD_eq_getElem?_getD]
  rcases Nat.lt_or_ge 0 l.2.2.2.1.length with h|h
  ·rw[List.getElem?_eq_getElem h]
   refine Nat.le_trans (parts_fld (no:=((i+1:Nat):Int)) (s:=lineOf t p) _ ?_) hll
   rw[←hld]
   exact List.getElem_mem h
  ·rw[List.getElem?_eq_none h];simp
 refine run_ok (Cs:=[linPieces,linScan,wrdBlank,cNumber,cOne,wrdClasses,cCheck,cloneLv,cloneOd,lawTwin]) (stp:=[13]) (inl:=[9,21,24,35,36,47,33,45,25]) (unr:=false) (cons_ok linPieces_ok (cons_ok linScan_ok (cons_ok wrdBlank_ok (cons_ok cNumber_ok (cons_ok cOne_ok (cons_ok wrdClasses_ok (cons_ok cCheck_ok (cons_ok cloneLv_ok (cons_ok cloneOd_ok (cons_ok lawTwin_ok nil_ok)))))))))) 200 _ _ _ _ ?_
 simp(maxSteps:=4000000)only[go_sem,reduceIte,reduceCtorEq,Z0,Z1,Z2,Z3,Z4,Z5,Z6,Z7,Z8,Z9,ZA,ZB,ZC,ZD,dl,cA,dE,hw,hl,dS,hv,d2,d1,oneN,oneP,oneM,oneF,linPieces,linScan,wrdBlank,cNumber,cOne,wrdClasses,cCheck,cloneLv,cloneOd,lawTwin]
 (repeat' first|apply And.intro|intro _|(show staB _ _=true;kernel_rfl)|(show dynB _ _=true;kernel_rfl)|(show dynP _ _ _=true;kernel_rfl))
 all_goals try first|contradiction|omega
 by_cases hn:l.2.2.2.1.length=2
 case neg=>
  have dn:decide ((l.2.2.2.1.length:Int)=2)=false:=decide_eq_false (by omega)
  have hM:madeC (lv,od,wn,tn) l=(280,cZ):=by unfold madeC;rw[if_pos hn]
  have e1:casesV t=(280,((i+1:Nat):Int),out):=by
   have hs:stC (lv,od,wn,tn) l=(280,(lv,od,wn,tn),[]):=by unfold stC;rw[if_neg h2,if_pos h1,hM,if_pos (show(280:Int)≠0 by decide)]
   rw[←hfo,hs]
   rfl
  have hS:¬(280:Int)=0:=by decide
  rw[show stC (lv,od,wn,tn) l=((280:Int),(lv,od,wn,tn),[]) by unfold stC;rw[if_neg h2,if_pos h1,hM,if_pos (show(280:Int)≠0 by decide)]]at hq0
  exact absurd hq0 (show¬(280:Int)=0 by decide)
 have dn:decide ((l.2.2.2.1.length:Int)=2)=true:=decide_eq_true (by omega)
 cases hC:clL w0 with
 |none=>
  have h50:(clR w0).2.2=50:=clF_none _ _ hC
  have hM:madeC (lv,od,wn,tn) l=(50,cZ):=by unfold madeC;rw[if_neg (by rw[hn];simp),f0,hC]
  have e1:casesV t=(50,((i+1:Nat):Int),out):=by
   have hs:stC (lv,od,wn,tn) l=(50,(lv,od,wn,tn),[]):=by unfold stC;rw[if_neg h2,if_pos h1,hM,if_pos (show(50:Int)≠0 by decide)]
   rw[←hfo,hs]
   rfl
  have hS:¬(50:Int)=0:=by decide
  rw[show stC (lv,od,wn,tn) l=((50:Int),(lv,od,wn,tn),[]) by unfold stC;rw[if_neg h2,if_pos h1,hM,if_pos (show(50:Int)≠0 by decide)]]at hq0
  exact absurd hq0 (show¬(50:Int)=0 by decide)
 |some cl=>
  have hcR:=clR_some hC
  have hmd:madeC (lv,od,wn,tn) l=if bsB b=false then(283,cZ)else if wn=false then(281,cZ)else if tn=false then(282,cZ)else if chkV (cdOf (lv,od,wn,tn) l cl)≠0 then(chkV (cdOf (lv,od,wn,tn) l cl),cZ)else(0,cdOf (lv,od,wn,tn) l cl):=by
   unfold madeC
   rw[if_neg (by rw[hn];simp),f0,hC,f1]
  by_cases hb1:b.length=1
  case neg=>
   have dB1:decide ((b.length:Int)=1)=false:=decide_eq_false (by omega)
   have hbs:bsB b=false:=by unfold bsB;rw[decide_eq_false hb1];rfl
   have hM:madeC (lv,od,wn,tn) l=(283,cZ):=by rw[hmd,if_pos hbs]
   have e1:casesV t=(283,((i+1:Nat):Int),out):=by
    have hs:stC (lv,od,wn,tn) l=(283,(lv,od,wn,tn),[]):=by unfold stC;rw[if_neg h2,if_pos h1,hM,if_pos (show(283:Int)≠0 by decide)]
    rw[←hfo,hs]
    rfl
   have hS:¬(283:Int)=0:=by decide
   rw[show stC (lv,od,wn,tn) l=((283:Int),(lv,od,wn,tn),[]) by unfold stC;rw[if_neg h2,if_pos h1,hM,if_pos (show(283:Int)≠0 by decide)]]at hq0
   exact absurd hq0 (show¬(283:Int)=0 by decide)
  have dB1:decide ((b.length:Int)=1)=true:=decide_eq_true (by omega)
  by_cases hb2:(b.getD 0 0).toNat<49
  ·have dB2:decide (((b.getD 0 0).toNat:Int)<49)=true:=decide_eq_true (by omega)
   have hbs:bsB b=false:=by unfold bsB;rw[decide_eq_false (show¬49≤(b.getD 0 0).toNat by omega)];simp
   have hM:madeC (lv,od,wn,tn) l=(283,cZ):=by rw[hmd,if_pos hbs]
   have e1:casesV t=(283,((i+1:Nat):Int),out):=by
    have hs:stC (lv,od,wn,tn) l=(283,(lv,od,wn,tn),[]):=by unfold stC;rw[if_neg h2,if_pos h1,hM,if_pos (show(283:Int)≠0 by decide)]
    rw[←hfo,hs]
    rfl
   have hS:¬(283:Int)=0:=by decide
   rw[show stC (lv,od,wn,tn) l=((283:Int),(lv,od,wn,tn),[]) by unfold stC;rw[if_neg h2,if_pos h1,hM,if_pos (show(283:Int)≠0 by decide)]]at hq0
   exact absurd hq0 (show¬(283:Int)=0 by decide)
  have dB2:decide (((b.getD 0 0).toNat:Int)<49)=false:=decide_eq_false (by omega)
  by_cases hb3:55<(b.getD 0 0).toNat
  ·have dB3:decide ((55:Int)<((b.getD 0 0).toNat:Int))=true:=decide_eq_true (by omega)
   have hbs:bsB b=false:=by unfold bsB;rw[decide_eq_false (show¬(b.getD 0 0).toNat≤55 by omega)];simp
   have hM:madeC (lv,od,wn,tn) l=(283,cZ):=by rw[hmd,if_pos hbs]
   have e1:casesV t=(283,((i+1:Nat):Int),out):=by
    have hs:stC (lv,od,wn,tn) l=(283,(lv,od,wn,tn),[]):=by unfold stC;rw[if_neg h2,if_pos h1,hM,if_pos (show(283:Int)≠0 by decide)]
    rw[←hfo,hs]
    rfl
   have hS:¬(283:Int)=0:=by decide
   rw[show stC (lv,od,wn,tn) l=((283:Int),(lv,od,wn,tn),[]) by unfold stC;rw[if_neg h2,if_pos h1,hM,if_pos (show(283:Int)≠0 by decide)]]at hq0
   exact absurd hq0 (show¬(283:Int)=0 by decide)
  have dB3:decide ((55:Int)<((b.getD 0 0).toNat:Int))=false:=decide_eq_false (by omega)
  have hbs:¬bsB b=false:=by
   unfold bsB
   rw[decide_eq_true hb1,decide_eq_true (show 49≤(b.getD 0 0).toNat by omega),decide_eq_true (show(b.getD 0 0).toNat≤55 by omega)]
   simp
  rw[if_neg hbs]at hmd
  cases wn with
  |false=>
   have hM:madeC (lv,od,false,tn) l=(281,cZ):=by rw[hmd,if_pos rfl]
   have e1:casesV t=(281,((i+1:Nat):Int),out):=by
    have hs:stC (lv,od,false,tn) l=(281,(lv,od,false,tn),[]):=by unfold stC;rw[if_neg h2,if_pos h1,hM,if_pos (show(281:Int)≠0 by decide)]
    rw[←hfo,hs]
    rfl
   have hS:¬(281:Int)=0:=by decide
   rw[show stC (lv,od,false,tn) l=((281:Int),(lv,od,false,tn),[]) by unfold stC;rw[if_neg h2,if_pos h1,hM,if_pos (show(281:Int)≠0 by decide)]]at hq0
   exact absurd hq0 (show¬(281:Int)=0 by decide)
  |true=>
   rw[if_neg (by simp)]at hmd
   cases tn with
   |false=>
    have hM:madeC (lv,od,true,false) l=(282,cZ):=by rw[hmd,if_pos rfl]
    have e1:casesV t=(282,((i+1:Nat):Int),out):=by
     have hs:stC (lv,od,true,false) l=(282,(lv,od,true,false),[]):=by unfold stC;rw[if_neg h2,if_pos h1,hM,if_pos (show(282:Int)≠0 by decide)]
     rw[←hfo,hs]
     rfl
    have hS:¬(282:Int)=0:=by decide
    rw[show stC (lv,od,true,false) l=((282:Int),(lv,od,true,false),[]) by unfold stC;rw[if_neg h2,if_pos h1,hM,if_pos (show(282:Int)≠0 by decide)]]at hq0
    exact absurd hq0 (show¬(282:Int)=0 by decide)
   |true=>
    rw[if_neg (by simp)]at hmd
    obtain⟨c,hcc⟩:∃c:CD,c=(((i+1:Nat):Int),cl,((b.getD 0 0).toNat:Int) - 48,lv,od,()):=⟨_,rfl⟩
    have hcd:cdOf (lv,od,true,true) l cl=c:=by
     rw[hcc]
     show(l.1,cl,(((fld l 1).getD 0 0).toNat:Int) - 48,lv,od,())=_
     rw[hno,f1]
    rw[hcd]at hmd
    have w9:wr .u8 (((b.getD 0 0).toNat:Int) - 48)=((b.getD 0 0).toNat:Int) - 48:=wr_u8 (by omega) (by omega)
    obtain⟨e,he⟩:∃e,e=chkV c:=⟨_,rfl⟩
    have he2:chkV (((i+1:Nat):Int),cl,((b.getD 0 0).toNat:Int) - 48,lv,od,())=e:=by rw[he,hcc]
    rw[←he]at hmd
    by_cases hK:e=0
    case neg=>
     have dK:decide (e=0)=false:=decide_eq_false hK
     have hM:madeC (lv,od,true,true) l=(e,cZ):=by rw[hmd,if_pos hK]
     have e1:casesV t=(e,((i+1:Nat):Int),out):=by
      have hs:stC (lv,od,true,true) l=(e,(lv,od,true,true),[]):=by unfold stC;rw[if_neg h2,if_pos h1,hM,if_pos hK]
      rw[←hfo,hs,if_pos hK]
     have hS:¬e=0:=hK
     rw[show stC (lv,od,true,true) l=(e,(lv,od,true,true),[]) by unfold stC;rw[if_neg h2,if_pos h1,hM,if_pos hK]]at hq0
     exact absurd hq0 hK
    have dK:decide (e=0)=true:=decide_eq_true hK
    have hM:madeC (lv,od,true,true) l=(0,c):=by rw[hmd,if_neg (by simp[hK])]
    have hfo':cdFold t (i+1+1) ((pcsV t).drop (i+1)) (lv,od,true,true) (out++[c])=casesV t:=by
     have hs:stC (lv,od,true,true) l=(0,(lv,od,true,true),[c]):=by unfold stC;rw[if_neg h2,if_pos h1,hM,if_neg (by simp)]
     rw[←hfo,hs,if_neg (by simp)]
    have hol3:(out++[c]).length=out.length+1:=by simp
    refine run_ok (Cs:=[linPieces,linScan,wrdBlank,cNumber,cOne,wrdClasses,cCheck,cloneLv,cloneOd,lawTwin]) (stp:=[16]) (inl:=[9,21,24,35,36,47,33,45,25]) (unr:=false) (cons_ok linPieces_ok (cons_ok linScan_ok (cons_ok wrdBlank_ok (cons_ok cNumber_ok (cons_ok cOne_ok (cons_ok wrdClasses_ok (cons_ok cCheck_ok (cons_ok cloneLv_ok (cons_ok cloneOd_ok (cons_ok lawTwin_ok nil_ok)))))))))) 300 _ _ _ _ ?_
    simp(maxSteps:=4000000)only[go_sem,reduceIte,reduceCtorEq,Z0,Z1,Z2,Z3,Z4,Z5,Z6,Z7,Z8,Z9,ZA,ZB,ZC,ZD,hw,d2,d1,dn,←hw0,←hb,hcR,dB1,dB2,dB3,w9,he2,dK,oneN,oneP,oneM,oneF,bIEp9,nEEp9,Tryz.f9,bIEp21,nEEp21,Tryz.f21,bIEp24,nEEp24,Tryz.f24,bIEp35,nEEp35,Tryz.f35,bIEp36,nEEp36,Tryz.f36,bIEp47,nEEp47,Tryz.f47,bIEp33,nEEp33,Tryz.f33,bIEp45,nEEp45,Tryz.f45,bIEp25,nEEp25,Tryz.f25,linPieces,linScan,wrdBlank,cNumber,cOne,wrdClasses,cCheck,cloneLv,cloneOd,lawTwin]
    (repeat' first|apply And.intro|intro _|(show staB _ _=true;kernel_rfl)|(show dynB _ _=true;kernel_rfl)|(show dynP _ _ _=true;kernel_rfl))
    all_goals try first|contradiction|omega
    refine run_ok (Cs:=[linPieces,linScan,wrdBlank,cNumber,cOne,wrdClasses,cCheck,cloneLv,cloneOd,lawTwin]) (stp:=[]) (inl:=[9,21,24,35,36,47,33,45,25]) (unr:=false) (cons_ok linPieces_ok (cons_ok linScan_ok (cons_ok wrdBlank_ok (cons_ok cNumber_ok (cons_ok cOne_ok (cons_ok wrdClasses_ok (cons_ok cCheck_ok (cons_ok cloneLv_ok (cons_ok cloneOd_ok (cons_ok lawTwin_ok nil_ok)))))))))) 14 _ _ _ _ ?_
    simp(maxSteps:=4000000)only[go_sem,reduceIte,reduceCtorEq,Z0,Z1,Z2,Z3,Z4,Z5,Z6,Z7,Z8,Z9,ZA,ZB,ZC,ZD,hw,d2,d1,dn,←hw0,←hb,hcR,oneN,oneP,oneM,oneF,bIEp9,nEEp9,Tryz.f9,bIEp21,nEEp21,Tryz.f21,bIEp24,nEEp24,Tryz.f24,bIEp35,nEEp35,Tryz.f35,bIEp36,nEEp36,Tryz.f36,bIEp47,nEEp47,Tryz.f47,bIEp33,nEEp33,Tryz.f33,bIEp45,nEEp45,Tryz.f45,bIEp25,nEEp25,Tryz.f25,linPieces,linScan,wrdBlank,cNumber,cOne,wrdClasses,cCheck,cloneLv,cloneOd,lawTwin]
    (repeat' first|apply And.intro|intro _|(show staB _ _=true;kernel_rfl)|(show dynB _ _=true;kernel_rfl)|(show dynP _ _ _=true;kernel_rfl))
    all_goals try first|contradiction|omega
    refine run_ok (Cs:=[linPieces,linScan,wrdBlank,cNumber,cOne,wrdClasses,cCheck,cloneLv,cloneOd,lawTwin]) (stp:=[16]) (inl:=[9,21,24,35,36,47,33,45,25]) (unr:=false) (cons_ok linPieces_ok (cons_ok linScan_ok (cons_ok wrdBlank_ok (cons_ok cNumber_ok (cons_ok cOne_ok (cons_ok wrdClasses_ok (cons_ok cCheck_ok (cons_ok cloneLv_ok (cons_ok cloneOd_ok (cons_ok lawTwin_ok nil_ok)))))))))) 300 _ _ _ _ ?_
    simp(maxSteps:=4000000)only[go_sem,reduceIte,reduceCtorEq,Z0,Z1,Z2,Z3,Z4,Z5,Z6,Z7,Z8,Z9,ZA,ZB,ZC,ZD,hw,d2,d1,dn,←hw0,←hb,hcR,oneN,oneP,oneM,oneF,bIEp9,nEEp9,Tryz.f9,bIEp21,nEEp21,Tryz.f21,bIEp24,nEEp24,Tryz.f24,bIEp35,nEEp35,Tryz.f35,bIEp36,nEEp36,Tryz.f36,bIEp47,nEEp47,Tryz.f47,bIEp33,nEEp33,Tryz.f33,bIEp45,nEEp45,Tryz.f45,bIEp25,nEEp25,Tryz.f25,linPieces,linScan,wrdBlank,cNumber,cOne,wrdClasses,cCheck,cloneLv,cloneOd,lawTwin]
    (repeat' first|apply And.intro|intro _|(show staB _ _=true;kernel_rfl)|(show dynB _ _=true;kernel_rfl)|(show dynP _ _ _=true;kernel_rfl))
    all_goals try first|contradiction|omega
    refine run_ok (Cs:=[linPieces,linScan,wrdBlank,cNumber,cOne,wrdClasses,cCheck,cloneLv,cloneOd,lawTwin]) (stp:=[]) (inl:=[9,21,24,35,36,47,33,45,25,11]) (unr:=false) (cons_ok linPieces_ok (cons_ok linScan_ok (cons_ok wrdBlank_ok (cons_ok cNumber_ok (cons_ok cOne_ok (cons_ok wrdClasses_ok (cons_ok cCheck_ok (cons_ok cloneLv_ok (cons_ok cloneOd_ok (cons_ok lawTwin_ok nil_ok)))))))))) 2 _ _ _ _ ?_
    simp(maxSteps:=4000000)only[go_sem,reduceIte,reduceCtorEq,Z0,Z1,Z2,Z3,Z4,Z5,Z6,Z7,Z8,Z9,ZA,ZB,ZC,ZD,oneN,oneP,oneM,oneF,bIEp9,nEEp9,Tryz.f9,bIEp21,nEEp21,Tryz.f21,bIEp24,nEEp24,Tryz.f24,bIEp35,nEEp35,Tryz.f35,bIEp36,nEEp36,Tryz.f36,bIEp47,nEEp47,Tryz.f47,bIEp33,nEEp33,Tryz.f33,bIEp45,nEEp45,Tryz.f45,bIEp25,nEEp25,Tryz.f25,bIEp11,nEEp11,Tryz.f11,linPieces,linScan,wrdBlank,cNumber,cOne,wrdClasses,cCheck,cloneLv,cloneOd,lawTwin]
    refine OkQ.opX (u:=⟨.s (.sb 40 5 0 1 (some 1)),[(40,.box 37 [.int .i64 ((i+1:Nat):Int),.sub 30 0 cl.length,.int .u8 (((b.getD 0 0).toNat:Int) - 48),.sub 31 0 lv.length,.sub 32 0 od.length])],41⟩) (by kernel_rfl) rfl ?_
    refine run_ok (Cs:=[linPieces,linScan,wrdBlank,cNumber,cOne,wrdClasses,cCheck,cloneLv,cloneOd,lawTwin]) (stp:=[]) (inl:=[9,21,24,35,36,47,33,45,25,11]) (unr:=false) (cons_ok linPieces_ok (cons_ok linScan_ok (cons_ok wrdBlank_ok (cons_ok cNumber_ok (cons_ok cOne_ok (cons_ok wrdClasses_ok (cons_ok cCheck_ok (cons_ok cloneLv_ok (cons_ok cloneOd_ok (cons_ok lawTwin_ok nil_ok)))))))))) 60 _ _ _ _ ?_
    simp(maxSteps:=4000000)only[go_sem,reduceIte,reduceCtorEq,Z0,Z1,Z2,Z3,Z4,Z5,Z6,Z7,Z8,Z9,ZA,ZB,ZC,ZD,oneN,oneP,oneM,oneF,bIEp9,nEEp9,Tryz.f9,bIEp21,nEEp21,Tryz.f21,bIEp24,nEEp24,Tryz.f24,bIEp35,nEEp35,Tryz.f35,bIEp36,nEEp36,Tryz.f36,bIEp47,nEEp47,Tryz.f47,bIEp33,nEEp33,Tryz.f33,bIEp45,nEEp45,Tryz.f45,bIEp25,nEEp25,Tryz.f25,bIEp11,nEEp11,Tryz.f11,linPieces,linScan,wrdBlank,cNumber,cOne,wrdClasses,cCheck,cloneLv,cloneOd,lawTwin]
    rw[hcc]at hfo'
    have hcl:cl.length≤140737488355328:=by omega
    have hlv:lv.length≤140737488355328:=by omega
    have hod:od.length≤140737488355328:=by omega
    exact hG file few t i out lv od cl b p l w0 e hz hi hol hfw hlt hpl hfo' hcl hlv hod
end Go.Proofs.YthopfpplnclanaaGreatDoor.Sx
