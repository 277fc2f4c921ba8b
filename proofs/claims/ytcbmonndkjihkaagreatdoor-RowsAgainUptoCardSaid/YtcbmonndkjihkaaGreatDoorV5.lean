/- 'furrowlaw06.RowsAgain': the law returns true, and the input reads as it did. Where what comes holds at most 1048576 values and letters, and the listed package-level variables hold what the program's text lays (the card ties them). -/
import Derived.Test.YtcbmonndkjihkaaGreatDoorV4
import Derived.Test.YtcbmonndkjihkaaGreatDoorV3
import Derived.Deep.DeepHandedRow
import Derived.LaidHandle
import Derived.LaidLaws
import Derived.Lay
import Derived.Test.YtcbmonndkjihkaaGreatDoorRows
import Derived.Lib.LaidTab
import Derived.Stop.LaidErr
import Derived.Shelf.Vars
import Derived.Test.YtcbmonndkjihkaaGreatDoorTie
import Derived.Test.YtcbmonndkjihkaaGreatDoorCards
import Derived.Test.YtcbmonndkjihkaaGreatDoorV0
import Derived.Test.YtcbmonndkjihkaaGreatDoorV1
import Derived.Test.YtcbmonndkjihkaaGreatDoorV2
namespace Go.Proofs.YtcbmonndkjihkaaGreatDoor.Sx
attribute [local irreducible] OkQ Ok
set_option linter.unusedSimpArgs false
set_option linter.unusedVariables false
set_option maxRecDepth 8000
def partsL:Nat→List (List UInt8)→List LnD
 |_,[]=>[]
 |no,s::L=>partsV (no:Int) s::partsL (no+1) L
theorem scL_good:∀(L:List (List UInt8)) (no:Nat) (out:List LnD),(∀s∈L,scanE s=0)→scL no L out=(0,0,out++partsL no L)
 |[],no,out,_=>by rw[scL,partsL,List.append_nil]
 |s::L,no,out,h=>by
  rw[scL,if_neg (by rw[h s (List.mem_cons_self ..)];simp),scL_good L (no+1) _ fun x hx=>h x (List.mem_cons_of_mem _ hx),partsL,List.append_assoc]
  rfl
theorem scL_zero:∀(L:List (List UInt8)) (no:Nat) (out:List LnD),(scL no L out).1=0→∀s∈L,scanE s=0
 |[],_,_,_,_,h=>by cases h
 |s::L,no,out,h,x,hx=>by
  rw[scL]at h
  split at h
  ·rename_i h1
   exact absurd h h1
  ·rename_i h1
   rcases List.mem_cons.1 hx with rfl|hx
   ·exact Decidable.not_not.1 h1
   ·exact scL_zero L _ _ h x hx
theorem parts_app:∀(X Y:List (List UInt8)) (no:Nat),partsL no (X++Y)=partsL no X++partsL (no+X.length) Y
 |[],Y,no=>rfl
 |s::X,Y,no=>by
  rw[List.cons_append,partsL,partsL,parts_app X Y (no+1),List.length_cons,show no+1+X.length=no+(X.length+1) by omega]
  rfl
theorem parts_two(no no':Int)(s:List UInt8):(partsV no s).2=(partsV no' s).2:=by
 unfold partsV
 repeat' split
 all_goals rfl
theorem parts_same:∀(L:List (List UInt8)) (no no':Nat),(partsL no L).map (fun l=>l.2)=(partsL no' L).map (fun l=>l.2)
 |[],_,_=>rfl
 |s::L,no,no'=>by
  rw[partsL,partsL,List.map_cons,List.map_cons,parts_same L (no+1) (no'+1),parts_two]
theorem fold_ext:∀(P:List LnD) (out:List RowD) (w:Option WtD) (R:List RowD),rdFold P out w=(0,0,R)→∃Z,R=out++Z
 |[],out,none,R,h=>by rw[rdFold]at h;cases h;exact⟨[],by simp⟩
 |[],out,some w,R,h=>by rw[rdFold]at h;cases h
 |l::P,out,w,R,h=>by
  rw[rdFold]at h
  split at h
  ·exact fold_ext P out w R h
  split at h
  ·rename_i h1
   exact absurd (congrArg Prod.fst h) h1
  obtain⟨Z,hZ⟩:=fold_ext P _ _ R h
  cases w with
  |some v=>
   have e:stepO out (some v) l=out++[joinR v (rowR l)]:=rfl
   rw[e]at hZ
   exact⟨_,by rw[hZ,List.append_assoc]⟩
  |none=>
   have e:stepO out none l=if(halfV (fld l 1)).2.1=true then out else out++[rowR l]:=rfl
   rw[e]at hZ
   split at hZ
   ·exact⟨Z,hZ⟩
   ·exact⟨_,by rw[hZ,List.append_assoc]⟩
theorem fold_head:∀(P:List LnD) (v:WtD) (R:List RowD),rdFold P [] (some v)=(0,0,R)→(R.getD 0 rowZ).2.1=v.1.2.1
 |[],v,R,h=>by rw[rdFold]at h;cases h
 |l::P,v,R,h=>by
  rw[rdFold]at h
  split at h
  ·exact fold_head P v R h
  split at h
  ·rename_i h1
   exact absurd (congrArg Prod.fst h) h1
  obtain⟨Z,hZ⟩:=fold_ext P _ _ R h
  have e:stepO [] (some v) l=[joinR v (rowR l)]:=rfl
  rw[e]at hZ
  rw[hZ]
  rfl
theorem fold_zero:∀(P:List LnD) (out:List RowD) (w:Option WtD),(rdFold P out w).1=0→(rdFold P out w).2.1=0
 |[],out,none,_=>by rw[rdFold]
 |[],out,some w,h=>by rw[rdFold]at h;cases h
 |l::P,out,w,h=>by
  rw[rdFold]at h ⊢
  split
  ·rename_i h1
   rw[if_pos h1]at h
   exact fold_zero P out w h
  ·rename_i h1
   rw[if_neg h1]at h
   split
   ·rename_i h2
    rw[if_pos h2]at h
    exact absurd h h2
   ·rename_i h2
    rw[if_neg h2]at h
    exact fold_zero P _ _ h
def wSame:Option WtD→Option WtD→Prop
 |none,none=>True
 |some a,some b=>a.2=b.2∧a.1.2=b.1.2
 |_,_=>False
theorem lastR_app{B o:List RowD}(h:o≠[]):lastR (B++o)=lastR o:=by
 unfold lastR
 rw[List.getLast?_append]
 cases hl:o.getLast? with
 |none=>exact absurd (List.getLast?_eq_none_iff.1 hl) h
 |some r=>rfl
theorem fold_behind:∀(P P':List LnD) (out o2:List RowD) (w w':Option WtD) (B R:List RowD),P.map (fun l=>l.2)=P'.map (fun l=>l.2)→out.map noLn=o2.map noLn→wSame w w'→rdFold P out w=(0,0,R)→(out=[]→lastR B<(R.getD 0 rowZ).2.1)→
 ∃o3,R.map noLn=o3.map noLn∧∀Q,rdFold (P'++Q) (B++o2) w'=rdFold Q (B++o3) none
 |[],P',out,o2,w,w',B,R,hP,ho,hw,hr,_=>by
  have hP':P'=[]:=by
   cases P' with
   |nil=>rfl
   |cons a b=>cases hP
  subst hP'
  match w,w',hw with
  |none,none,_=>
   rw[rdFold]at hr
   cases hr
   exact⟨o2,ho,fun Q=>rfl⟩
  |some a,some b,_=>rw[rdFold]at hr;cases hr
 |l::P,P',out,o2,w,w',B,R,hP,ho,hw,hr,hlow=>by
  match P',hP with
  |l'::P',hP=>
  rw[List.map_cons,List.map_cons]at hP
  obtain⟨hl,hP⟩:=List.cons.inj hP
  have hl:l.2=l'.2:=hl
  have hsk:skipL l'=skipL l:=by unfold skipL;rw[hl]
  rw[rdFold]at hr
  by_cases h1:skipL l=true
  ·rw[if_pos h1]at hr
   obtain⟨o3,h3,h4⟩:=fold_behind P P' out o2 w w' B R hP ho hw hr hlow
   exact⟨o3,h3,fun Q=>by rw[List.cons_append,rdFold,if_pos (by rw[hsk];exact h1)];exact h4 Q⟩
  rw[if_neg h1]at hr
  by_cases h2:stepE out w l≠0
  ·rw[if_pos h2]at hr
   exact absurd (congrArg Prod.fst hr) h2
  rw[if_neg h2]at hr
  have h2:stepE out w l=0:=Decidable.not_not.1 h2
  have hrE:rowE l'=rowE l:=by unfold rowE fld;rw[hl]
  have hrR:(rowR l').2=(rowR l).2:=by unfold rowR fld;rw[hl]
  have hf:∀k,fld l' k=fld l k:=fun k=>by unfold fld;rw[hl]
  have hE:stepE (B++o2) w' l'=0:=by
   match w,w',hw with
   |some ⟨⟨n,A⟩,F⟩,some ⟨⟨n',A'⟩,F'⟩,⟨e1,e2⟩=>
    have e1:F=F':=e1
    have e2:A=A':=e2
    subst e1 e2
    unfold stepE at h2 ⊢
    rw[hrE]
    unfold joinE at h2 ⊢
    rw[hrR,←hl]
    exact h2
   |none,none,_=>
    unfold stepE at h2 ⊢
    rw[hrE,hf,hf]
    by_cases hr0:rowE l≠0
    ·rw[if_pos hr0]at h2
     exact absurd h2 hr0
    rw[if_neg hr0]at h2 ⊢
    dsimp only at h2 ⊢
    split at h2
    ·cases h2
    rename_i h3
    split at h2
    ·cases h2
    rename_i h4
    rw[if_neg h3]
    refine if_neg ?_
    by_cases h0:out=[]
    ·have ho2:o2=[]:=by
      subst h0
      exact List.map_eq_nil_iff.1 ho.symm
     have hlow:=hlow h0
     subst h0 ho2
     have hh:(R.getD 0 rowZ).2.1=hexV (fld l 0):=by
      by_cases h5:(halfV (fld l 1)).2.1=true
      ·have e1:stepO [] none l=[]:=if_pos h5
       have e2:stepW none l=some (rowR l,l.2.2.2.1,(halfV (fld l 1)).1):=if_pos h5
       rw[e1,e2]at hr
       exact fold_head P _ R hr
      ·have e1:stepO [] none l=[rowR l]:=if_neg h5
       rw[e1]at hr
       obtain⟨Z,hZ⟩:=fold_ext P _ _ R hr
       rw[hZ]
       rfl
     rw[List.append_nil]
     omega
    ·have ho2:o2≠[]:=fun e=>h0 (by rw[e]at ho;exact List.map_eq_nil_iff.1 ho)
     rw[lastR_app ho2,last_no o2,←ho,←last_no]
     exact h4
  have hO:∃o4,stepO (B++o2) w' l'=B++o4∧(stepO out w l).map noLn=o4.map noLn:=by
   match w,w',hw with
   |some ⟨⟨n,A⟩,F⟩,some ⟨⟨n',A'⟩,F'⟩,⟨e1,e2⟩=>
    have e2:A=A':=e2
    subst e2
    refine⟨o2++[joinR ((n',A),F') (rowR l')],?_,?_⟩
    ·show(B++o2)++_=_
     rw[List.append_assoc]
    ·show(out++[_]).map noLn=_
     rw[List.map_append,List.map_append,ho]
     unfold joinR
     rw[hrR]
     all_goals rfl
   |none,none,_=>
    have q1:stepO (B++o2) none l'=if(halfV (fld l 1)).2.1=true then B++o2 else(B++o2)++[rowR l']:=by rw[←hf 1];rfl
    have q2:stepO out none l=if(halfV (fld l 1)).2.1=true then out else out++[rowR l]:=rfl
    rw[q1,q2]
    split
    ·exact⟨o2,rfl,ho⟩
    ·refine⟨o2++[rowR l'],by rw[List.append_assoc],?_⟩
     rw[List.map_append,List.map_append,ho,List.map_cons,List.map_cons]
     unfold noLn
     rw[hrR]
     all_goals rfl
  have hW:wSame (stepW w l) (stepW w' l'):=by
   match w,w',hw with
   |some _,some _,_=>trivial
   |none,none,_=>
    have q1:stepW none l'=if(halfV (fld l 1)).2.1=true then some (rowR l',l'.2.2.2.1,(halfV (fld l' 1)).1)else none:=by rw[←hf 1];rfl
    have q2:stepW none l=if(halfV (fld l 1)).2.1=true then some (rowR l,l.2.2.2.1,(halfV (fld l 1)).1)else none:=rfl
    rw[q1,q2]
    split
    ·exact⟨by rw[hf,←hl],hrR.symm⟩
    ·trivial
  obtain⟨o4,e4,e5⟩:=hO
  obtain⟨o3,h3,h4⟩:=fold_behind P P' _ o4 _ _ B R hP e5 hW hr (fun h=>hlow (by
   obtain⟨Z,hZ⟩:∃Z,stepO out w l=out++Z:=by
    cases w with
    |some v=>exact⟨_,rfl⟩
    |none=>
     have q2:stepO out none l=if(halfV (fld l 1)).2.1=true then out else out++[rowR l]:=rfl
     rw[q2]
     split
     ·exact⟨[],by simp⟩
     ·exact⟨_,rfl⟩
   rw[hZ]at h
   exact(List.append_eq_nil_iff.1 h).1))
  refine⟨o3,h3,fun Q=>?_⟩
  rw[List.cons_append,rdFold,if_neg (by rw[hsk];exact h1),if_neg (by rw[hE];simp),e4]
  exact h4 Q
theorem hxD_in(k:Nat):(hxD k).toNat<239:=by
 unfold hxD
 rcases Nat.lt_or_ge k 16 with h|h
 ·have key:∀j,j<16→(([48,49,50,51,52,53,54,55,56,57,65,66,67,68,69,70]:List UInt8).getD j 0).toNat<239:=by decide
  exact key k h
 ·rw[List.getD_eq_getElem?_getD,List.getElem?_eq_none (by simpa using h)]
  decide
theorem hxTo_in(x:Nat):∀k,∀b∈hxTo x k,b.toNat<239
 |0,_,h=>by cases h
 |k+1,b,h=>by
  rw[hxTo]at h
  rcases List.mem_append.1 h with h|h
  ·exact hxTo_in x k b h
  ·rw[List.mem_singleton.1 h];exact hxD_in _
theorem bom_head{b:UInt8}{s:List UInt8}(h:b.toNat<239):bomN (b::s)=0:=by
 unfold bomN
 refine if_neg ?_
 intro hq
 obtain⟨t,ht⟩:=List.isPrefixOf_iff_prefix.1 hq
 have:b=239:=(List.cons.inj ht).1.symm
 rw[this]at h
 revert h
 decide
theorem line_bom(r:RowD)(name:List UInt8)(x:Int)(s:List UInt8):bomN (lineR r name x++s)=0:=by
 rw[lineR_cat,List.append_assoc]
 unfold showV
 split
 ·cases hq:(hxTo x.toNat (hxN x.toNat)).reverse with
  |nil=>exact bom_head (by decide)
  |cons b l=>
   refine bom_head (hxTo_in x.toNat (hxN x.toNat) b ?_)
   rw[←List.mem_reverse,hq]
   exact List.mem_cons_self ..
 ·exact bom_head (by decide)
theorem one_bom(r:RowD)(s:List UInt8):bomN (oneV r++s)=0:=by
 unfold oneV
 split
 ·exact line_bom _ _ _ _
 ·rw[List.append_assoc]
  exact line_bom _ _ _ _
theorem line_last(r:RowD)(name:List UInt8)(x:Int):(lineR r name x).getLast? =some 10:=by
 unfold lineR
 rw[List.getLast?_append]
 rfl
theorem one_last(r:RowD):(oneV r).getLast? =some 10:=by
 unfold oneV
 split
 ·exact line_last _ _ _
 ·rw[List.getLast?_append,line_last]
  rfl
theorem right_lines{r:RowD}(h:rightB r=true):(∀s∈lnS (oneV r),scanE s=0)∧∃R,rdFold (partsL 1 (lnS (oneV r))) [] none=(0,0,R)∧R.map noLn=[noLn r]:=by
 unfold rightB at h
 rw[Bool.and_eq_true,decide_eq_true_eq,decide_eq_true_eq]at h
 obtain⟨h1,h2⟩:=h
 have hb:bomN (oneV r)=0:=by have:=one_bom r [];rwa [List.append_nil]at this
 rw[rowsV_eq,hb,List.drop_zero]at h1 h2
 have hz:(scL 1 (lnS (oneV r)) []).1=0:=by
  unfold rowsOf at h1
  split at h1
  ·exact h1
  ·rename_i h3
   exact Decidable.not_not.1 h3
 have hs:=scL_zero _ _ _ hz
 have hg:=scL_good (lnS (oneV r)) 1 [] hs
 rw[hg]at h1 h2
 unfold rowsOf at h1 h2
 rw[if_neg (by simp)]at h1 h2
 dsimp only at h1 h2
 rw[List.nil_append]at h1 h2
 refine⟨hs,_,?_,h2⟩
 refine Prod.ext h1 (Prod.ext ?_ rfl)
 exact fold_zero _ _ _ h1
theorem map_single{l:List RowD}{r:RowD}(h:l.map noLn=[noLn r]):∃x,l=[x]∧x.2=r.2:=by
 cases l with
 |nil=>cases h
 |cons x l=>
  rw[List.map_cons]at h
  obtain⟨h1,h2⟩:=List.cons.inj h
  have h3:=congrArg (fun y:RowD=>y.2) h1
  exact⟨x,by rw[List.map_eq_nil_iff.1 h2],h3⟩
theorem back_rows:∀(l:List RowD) (p:Option Int) (B:List RowD) (no:Nat),chkR p l=0→(p=none→B=[])→(∀b,p=some b→lastR B=b)→
 (∀s∈lnS (l.map oneV).flatten,scanE s=0)∧∃l3,rdFold (partsL no (lnS (l.map oneV).flatten)) B none=(0,0,B++l3)∧l3.map noLn=l.map noLn
 |[],p,B,no,_,_,_=>by
  rw[List.map_nil,List.flatten_nil,lnS_nil]
  refine⟨fun s h=>(by cases h),[],?_,rfl⟩
  rw[partsL,rdFold,List.append_nil]
 |r::l,p,B,no,hc,hn,hsome=>by
  rw[chkR]at hc
  split at hc
  ·cases hc
  split at hc
  ·cases hc
  rename_i h1 h2
  have hr:rightB r=true:=by simpa using h1
  obtain⟨hs,R,hR,hm⟩:=right_lines hr
  obtain⟨x,rfl,hx⟩:=map_single hm
  have hup:=fold_up (partsL 1 (lnS (oneV r))) [] none trivial trivial
  rw[hR]at hup
  have hx1:x.2.1=r.2.1:=congrArg (fun y=>y.1) hx
  have hlow:lastR B<x.2.1:=by
   rw[hx1]
   cases p with
   |none=>
    rw[hn rfl]
    have:=hup.1
    rw[hx1]at this
    exact this
   |some b=>
    rw[hsome b rfl]
    exact Int.not_le.1 fun h=>h2 ⟨b,rfl,h⟩
  obtain⟨o3,ho,hq⟩:=fold_behind (partsL 1 (lnS (oneV r))) (partsL no (lnS (oneV r))) [] [] none none B [x] (parts_same _ _ _) rfl trivial hR (fun _=>hlow)
  obtain⟨y,rfl,hy⟩:=map_single (ho.symm.trans hm)
  have hyl:lastR (B++[y])=r.2.2.1:=by
   rw[lastR_app (by simp)]
   exact congrArg (fun z=>z.2.1) hy
  obtain⟨i1,l4,i2,i3⟩:=back_rows l (some r.2.2.1) (B++[y]) (no+(lnS (oneV r)).length) hc (fun h=>by cases h) (fun b hb=>by cases hb;exact hyl)
  have hl:lnS ((r::l).map oneV).flatten=lnS (oneV r)++lnS (l.map oneV).flatten:=by
   rw[List.map_cons,List.flatten_cons]
   exact lnS_app _ _ _ (Nat.le_refl _) (.inr (one_last r))
  rw[hl]
  refine⟨fun s hs'=>(List.mem_append.1 hs').elim (hs s) (i1 s),y::l4,?_,?_⟩
  ·have h:=hq (partsL (no+(lnS (oneV r)).length) (lnS (l.map oneV).flatten))
   rw[List.append_nil]at h
   rw[parts_app,h,i2,List.append_assoc]
   rfl
  ·rw[List.map_cons,List.map_cons,i3]
   unfold noLn
   rw[hy]
theorem rows_back{l:List RowD}(h:chkR none l=0):(rowsV (l.map oneV).flatten).1=0∧(rowsV (l.map oneV).flatten).2.2.map noLn=l.map noLn:=by
 have hb:bomN (l.map oneV).flatten=0:=by
  cases l with
  |nil=>rfl
  |cons r l=>rw[List.map_cons,List.flatten_cons];exact one_bom r _
 obtain⟨h1,l3,h2,h3⟩:=back_rows l none [] 1 h (fun _=>rfl) (fun b hb=>by cases hb)
 rw[rowsV_eq,hb,List.drop_zero,scL_good _ 1 [] h1]
 unfold rowsOf
 rw[if_neg (by simp)]
 dsimp only
 rw[List.nil_append,h2]
 exact⟨rfl,h3⟩
theorem line_short{r:RowD}{name:List UInt8}{x:Int}(hc:IntKind.u8.has r.2.2.2.2.2.1):(lineR r name x).length≤name.length+r.2.2.2.2.1.length+160:=by
 have e1:=show_len x
 have e2:(twinV r).length≤6:=by
  unfold twinV
  split
  ·simp
  ·exact show_len _
 have e3:(flagV r).length=1:=by unfold flagV;split<;>rfl
 have e4:(clsL r.2.2.2.2.2.2.1).length≤100:=nmV_len r.2.2.2.2.2.2.1
 have hc':0≤r.2.2.2.2.2.1∧r.2.2.2.2.2.1≤255:=by simpa[IntKind.has,IntKind.min,IntKind.max,IntKind.signed,IntKind.bits]using hc
 have e5:=itoa_len (n:=r.2.2.2.2.2.1) (by omega) (by omega)
 rw[lineR_cat]
 simp only[List.length_append,List.length_cons,List.length_nil]
 omega
end Go.Proofs.YtcbmonndkjihkaaGreatDoor.Sx
namespace Go.Proofs.YtcbmonndkjihkaaGreatDoor.Sx
attribute [local irreducible] OkQ Ok
set_option linter.unusedSimpArgs false
set_option linter.unusedVariables false
set_option maxRecDepth 8000
theorem hexD_hxD:∀k,k<16→hexD (hxD k)=(k:Int):=by decide+kernel
theorem hxTo_get(n:Nat):∀(m i:Nat),i<m→(hxTo n m).getD i 0=hxD (n / 16 ^ i % 16)
 |0,i,h=>by omega
 |m+1,i,h=>by
  rw[hxTo]
  rcases Nat.lt_or_ge i m with hi|hi
  ·rw[List.getD_eq_getElem?_getD,List.getElem?_append_left (by rw[hxTo_len];exact hi),←List.getD_eq_getElem?_getD]
   exact hxTo_get n m i hi
  ·obtain rfl:i=m:=by omega
   rw[List.getD_eq_getElem?_getD,List.getElem?_append_right (by rw[hxTo_len];exact Nat.le_refl _),hxTo_len,Nat.sub_self]
   rfl
theorem show_get{n m i:Nat}(h:i<m):((hxTo n m).reverse).getD i 0=hxD (n / 16 ^ (m - 1 - i) % 16):=by
 have hl:=hxTo_len n m
 rw[List.getD_eq_getElem?_getD,List.getElem?_reverse (by rw[hl];exact h),hl,←List.getD_eq_getElem?_getD]
 exact hxTo_get n m _ (by omega)
theorem show_dig{n m i:Nat}(h:i<m):hexD (((hxTo n m).reverse).getD i 0)=((n / 16 ^ (m - 1 - i) % 16:Nat):Int):=by
 rw[show_get h]
 exact hexD_hxD _ (Nat.mod_lt _ (by omega))
theorem show_R{n m:Nat}(hn:n<16 ^ m):∀i,i≤m→hexR ((hxTo n m).reverse) i=((n / 16 ^ (m - i):Nat):Int)
 |0,_=>by
  rw[hexR,Nat.sub_zero,Nat.div_eq_of_lt hn]
  rfl
 |i+1,h=>by
  rw[hexR,show_R hn i (by omega),show_dig (by omega)]
  have e:16 ^ (m - i)=16 ^ (m - 1 - i)*16:=by rw[←Nat.pow_succ];congr 1;omega
  rw[e,←Nat.div_div_eq_div_mul,show m - (i+1)=m - 1 - i by omega]
  omega
theorem show_hex{x:Int}(h0:0≤x)(h1:x≤1114111):hexE (showV x)=0∧hexV (showV x)=x:=by
 obtain⟨n,rfl⟩:∃n:Nat,x=(n:Int):=⟨x.toNat,by omega⟩
 have hv:showV (n:Int)=(hxTo n (hxN n)).reverse:=if_pos ⟨h0,h1⟩
 have hE:=hx_end (n:=n) (by omega)
 obtain⟨m,hm⟩:∃m,m=hxN n:=⟨_,rfl⟩
 rw[hv,←hm]
 rw[←hm]at hE
 have hlt:n<16 ^ m:=by
  rcases Nat.lt_or_ge n (16 ^ m)with h|h
  ·exact h
  ·have:=Nat.div_pos h (by exact Nat.pow_pos (by omega))
   omega
 have hl:((hxTo n m).reverse).length=m:=by rw[List.length_reverse,hxTo_len]
 have hd:∀j,j<m→0≤hexD (((hxTo n m).reverse).getD j 0):=fun j hj=>by rw[show_dig hj];omega
 have hT:hexTo ((hxTo n m).reverse) m=(n:Int):=by
  rw[hexTo_R m (by omega) hd,show_R hlt m (Nat.le_refl _),Nat.sub_self,Nat.pow_zero,Nat.div_one]
 have hbad:hexBad ((hxTo n m).reverse)=false:=by
  refine hexBad_no (by rw[hl];omega) (by rw[hl];omega) ?_ (fun j hj=>hd j (by rwa [hl]at hj)) (by rw[hl,hT];omega)
  rintro⟨h4,h5⟩
  rw[hl]at h4
  have h6:=show_dig (n:=n) (m:=m) (i:=0) (by omega)
  rw[h5,show hexD 48=0 by decide+kernel]at h6
  have h7:=hx_more (n:=n) (k:=m - 1) (by omega)
  have h8:n / 16 ^ (m - 1)<16:=by
   rw[Nat.div_lt_iff_lt_mul (Nat.pow_pos (by omega)),Nat.mul_comm,←Nat.pow_succ,show(m - 1).succ=m by omega]
   exact hlt
  rw[show m - 1 - 0=m - 1 by omega,Nat.mod_eq_of_lt h8]at h6
  omega
 refine⟨by rw[hexE,hbad];rfl,?_⟩
 rw[hexV,hbad,cond_false,hl,hT]
theorem comb_show{s:List UInt8}(h:0≤combV s):Lib.itoa (combV s)=s:=((comb_code (comb_atoi h)).2 ⟨rfl,h⟩).2.2
theorem cls_show{s:List UInt8}(h:clsOf s≠0):(nmV (clsOf s)).1=s:=by
 obtain⟨_,h2,_,h4⟩:=cls_short h
 rw[h4]
 exact h2
theorem made_show{x:Int}(h0:0≤x)(h1:x≤1114111)(hx:x≠0):madeOk (showV x)=true∧madeV (showV x)=x:=by
 obtain⟨e1,e2⟩:=show_hex h0 h1
 have hne:showV x≠[]:=fun e=>by rw[e]at e1;exact absurd e1 (by decide+kernel)
 have hb:∀b∈showV x,b≠32∧b≠60:=fun b hb=>by
  have hm:b∈hxTo x.toNat (hxN x.toNat):=by
   unfold showV at hb
   rw[if_pos ⟨h0,h1⟩]at hb
   exact List.mem_reverse.1 hb
  have key:∀k,∀b∈hxTo x.toNat k,∃j,j<16∧b=hxD j:=by
   intro k
   induction k with
   |zero=>intro b h;cases h
   |succ k ih=>
    intro b h
    rw[hxTo]at h
    rcases List.mem_append.1 h with h|h
    ·exact ih b h
    ·exact⟨_,Nat.mod_lt _ (by omega),List.mem_singleton.1 h⟩
  obtain⟨j,hj,rfl⟩:=key _ b hm
  have:∀j,j<16→hxD j≠32∧hxD j≠60:=by decide
  exact this j hj
 have hsp:splitV 32 (showV x)=[showV x]:=split_none fun b h=>(hb b h).1
 have htag:isTag ((splitV 32 (showV x)).headD [])=false:=by
  rw[hsp]
  show isTag (showV x)=false
  unfold isTag
  cases hq:showV x with
  |nil=>rfl
  |cons b l=>
   have h60:b≠60:=(hb b (by rw[hq];exact List.mem_cons_self ..)).2
   rw[show decide ((b::l).getD 0 0=60)=false from decide_eq_false h60]
   simp
 have hL:madeL (showV x)=[showV x]:=by
  unfold madeL
  rw[if_neg (by rw[htag];simp),hsp]
 refine⟨?_,?_⟩
 ·unfold madeOk
  rw[hL]
  simp[e1]
 ·unfold madeV
  rw[if_neg hne,hL,if_neg (by rw[htag];simp)]
  exact e2
end Go.Proofs.YtcbmonndkjihkaaGreatDoor.Sx
namespace Go.Proofs.YtcbmonndkjihkaaGreatDoor.Sx
attribute [local irreducible] OkQ Ok
set_option linter.unusedSimpArgs false
set_option linter.unusedVariables false
set_option maxRecDepth 8000
theorem decN_keep{n n' b0 b1 b2 b3 c1 c2 c3 r w:Nat}(hd:Lib.decodeN n b0 b1 b2 b3=(r,w))(hg:r≠65533∨w=3)(h1:2≤w→c1=b1)(h2:3≤w→c2=b2)(h3:4≤w→c3=b3)(hn:w≤n'):Lib.decodeN n' b0 c1 c2 c3=(r,w):=by
 unfold Lib.decodeN at hd
 split at hd
 ·rename_i a
  cases hd
  unfold Lib.decodeN
  rw[if_pos a]
 rename_i a
 split at hd
 ·rename_i b
  split at hd
  ·rename_i c
   cases hd
   obtain rfl:=h1 (by omega)
   unfold Lib.decodeN
   rw[if_neg a,if_pos ⟨b.1,by omega,b.2.2⟩,if_pos c]
  ·cases hd
   rcases hg with h|h
   ·exact absurd rfl h
   ·cases h
 rename_i b
 split at hd
 ·rename_i b'
  split at hd
  ·rename_i c
   cases hd
   obtain rfl:=h1 (by omega)
   obtain rfl:=h2 (by omega)
   unfold Lib.decodeN
   rw[if_neg a,if_neg (by omega),if_pos ⟨b'.1,⟨by omega,b'.2.1.2⟩,by omega,b'.2.2.2⟩,if_pos c]
  ·cases hd
   rcases hg with h|h
   ·exact absurd rfl h
   ·cases h
 rename_i b'
 split at hd
 ·rename_i b''
  split at hd
  ·rename_i c
   cases hd
   obtain rfl:=h1 (by omega)
   obtain rfl:=h2 (by omega)
   obtain rfl:=h3 (by omega)
   unfold Lib.decodeN
   rw[if_neg a,if_neg (by omega),if_neg (by omega),if_pos ⟨b''.1,⟨by omega,b''.2.1.2⟩,⟨by omega,b''.2.2.1.2⟩,by omega,b''.2.2.2.2⟩,if_pos c]
  ·cases hd
   rcases hg with h|h
   ·exact absurd rfl h
   ·cases h
 ·cases hd
  rcases hg with h|h
  ·exact absurd rfl h
  ·cases h
structure OkC(c:List UInt8):Prop where
 dec:∃r:Nat,(∀t,decV (c++t) 0=(r,c.length))∧(r=65533→c.length=3)∧¬(((r:Int)<32∧(r:Int)≠9)∨(r:Int)=127)
 ne:c≠[]
 high:(∃b:UInt8,c=[b])∨∀b∈c,128≤b.toNat
def OkS(s:List UInt8):Prop:=∃cs:List (List UInt8),s=cs.flatten∧∀c∈cs,OkC c
theorem decN_high{n b0 b1 b2 b3 r w:Nat}(hd:Lib.decodeN n b0 b1 b2 b3=(r,w)):w=1∨(128≤b0∧(2≤w→128≤b1)∧(3≤w→128≤b2)∧(4≤w→128≤b3)∧w≤4):=by
 unfold Lib.decodeN at hd
 repeat' split at hd
 all_goals cases hd
 all_goals first|exact .inl rfl|(right;omega)
theorem take_getD{s t:List UInt8}{p w i:Nat}(hi:i<w)(hw:p+w≤s.length):((s.drop p).take w++t).getD i 0=s.getD (p+i) 0:=by
 have hl:((s.drop p).take w).length=w:=by simp;omega
 rw[List.getD_eq_getElem?_getD,List.getElem?_append_left (by omega),List.getElem?_take,if_pos hi,List.getElem?_drop,List.getD_eq_getElem?_getD]
theorem chr_ok{s:List UInt8}{p:Nat}(hp:p<s.length)(hg:(decV s p).1≠65533∨(decV s p).2=3)(hc:¬((((decV s p).1:Int)<32∧((decV s p).1:Int)≠9)∨((decV s p).1:Int)=127)):OkC ((s.drop p).take (decV s p).2):=by
 obtain⟨r,w,hd⟩:∃r w,decV s p=(r,w):=⟨_,_,rfl⟩
 have hw:=dec_fits hp
 have h1:=decW s p
 rw[hd]at hg hc hw h1 ⊢
 dsimp only at hg hc hw h1 ⊢
 have hl:((s.drop p).take w).length=w:=by simp;omega
 have hdN:=hd
 rw[dec_N]at hdN
 refine⟨⟨r,fun t=>?_,fun e=>?_,hc⟩,fun e=>?_,?_⟩
 ·rw[dec_N,hl]
  have hk:=decN_keep (n':=((s.drop p).take w++t).length - 0) (c1:=(((s.drop p).take w++t).getD (0+1) 0).toNat) (c2:=(((s.drop p).take w++t).getD (0+2) 0).toNat) (c3:=(((s.drop p).take w++t).getD (0+3) 0).toNat) hdN hg
   (fun h=>by rw[take_getD (by omega) hw]) (fun h=>by rw[take_getD (by omega) hw]) (fun h=>by rw[take_getD (by omega) hw]) (by rw[List.length_append,hl];omega)
  rw[←hk,take_getD (by omega) hw,Nat.add_zero]
 ·rw[hl]
  rcases hg with h|h
  ·exact absurd e h
  ·exact h
 ·rw[e]at hl
  simp at hl
  omega
 ·rcases decN_high hdN with e|⟨g0,g1,g2,g3,g4⟩
  ·left
   subst e
   match hq:(s.drop p).take 1,hl with
   |[b],_=>exact⟨b,rfl⟩
  ·right
   intro b hb
   obtain⟨i,hi,rfl⟩:=List.mem_iff_getElem.1 hb
   rw[hl]at hi
   have e1:=take_getD (t:=[]) hi hw
   rw[List.append_nil,List.getD_eq_getElem?_getD,List.getElem?_eq_getElem (by rw[hl];exact hi)]at e1
   have e1:((s.drop p).take w)[i]=s.getD (p+i) 0:=e1
   rw[e1]
   rcases(by omega:i=0∨i=1∨i=2∨i=3)with rfl|rfl|rfl|rfl
   ·exact g0
   ·exact g1 (by omega)
   ·exact g2 (by omega)
   ·exact g3 (by omega)
end Go.Proofs.YtcbmonndkjihkaaGreatDoor.Sx
namespace Go.Proofs.YtcbmonndkjihkaaGreatDoor.Sx
attribute [local irreducible] OkQ Ok
set_option linter.unusedSimpArgs false
set_option linter.unusedVariables false
set_option maxRecDepth 8000
theorem OkS.nil:OkS []:=⟨[],rfl,fun c h=>by cases h⟩
theorem OkS.cons{c s:List UInt8}(hc:OkC c)(hs:OkS s):OkS (c++s):=by
 obtain⟨cs,rfl,h⟩:=hs
 exact⟨c::cs,rfl,fun x hx=>(List.mem_cons.1 hx).elim (fun e=>e▸hc) (h x)⟩
theorem OkS.app{a b:List UInt8}(ha:OkS a)(hb:OkS b):OkS (a++b):=by
 obtain⟨cs,rfl,h⟩:=ha
 obtain⟨ds,rfl,k⟩:=hb
 exact⟨cs++ds,by rw[List.flatten_append],fun x hx=>(List.mem_append.1 hx).elim (h x) (k x)⟩
theorem okS_cut:∀(cs:List (List UInt8)) (x y:List UInt8) (b:UInt8),(∀c∈cs,OkC c)→b.toNat<128→cs.flatten=x++b::y→OkS x∧OkS y
 |[],x,y,b,_,_,h=>by
  have:=congrArg List.length h
  simp at this
 |c::cs,x,y,b,hcs,hb,h=>by
  have hc:=hcs c (List.mem_cons_self ..)
  have hcs':∀c∈cs,OkC c:=fun c h=>hcs c (List.mem_cons_of_mem _ h)
  rw[List.flatten_cons]at h
  rcases List.append_eq_append_iff.1 h with⟨a',e1,e2⟩|⟨c',e1,e2⟩
  ·obtain⟨h1,h2⟩:=okS_cut cs a' y b hcs' hb e2
   rw[e1]
   exact⟨OkS.cons hc h1,h2⟩
  ·cases c' with
   |nil=>
    rw[List.append_nil]at e1
    rw[List.nil_append]at e2
    obtain⟨_,h2⟩:=okS_cut cs [] y b hcs' hb e2.symm
    rw[←e1]
    refine⟨?_,h2⟩
    have:=OkS.cons hc OkS.nil
    rwa [List.append_nil]at this
   |cons b' c'=>
    obtain⟨rfl,e3⟩:=List.cons.inj e2
    rcases hc.high with⟨q,e4⟩|hh
    ·rw[e4]at e1
     have hx:x=[]∧c'=[]:=by
      cases x with
      |nil=>exact⟨rfl,(List.cons.inj e1).2.symm⟩
      |cons u x=>
       have:=congrArg List.length e1
       simp at this
     rw[hx.1,e3,hx.2]
     exact⟨OkS.nil,cs,rfl,hcs'⟩
    ·have:=hh b (by rw[e1];simp)
     omega
theorem OkS.split{x y:List UInt8}{b:UInt8}(h:OkS (x++b::y))(hb:b.toNat<128):OkS x∧OkS y:=by
 obtain⟨cs,e,hcs⟩:=h
 exact okS_cut cs x y b hcs hb e.symm
theorem OkS.cutA{s:List UInt8}{c:UInt8}(h:OkS s)(hc:c.toNat<128):OkS (Sx.cutA s c):=by
 rcases first_at (c:=c) s with hn|⟨p,t,rfl,hp⟩
 ·rw[(cut_none hn).1];exact h
 ·rw[(cut_at hp).1];exact(h.split hc).1
theorem OkS.pieces{c:UInt8}(hc:c.toNat<128):∀(n:Nat) (s:List UInt8),s.length≤n→OkS s→∀p∈splitV c s,OkS p
 |n,s,hl,h,p,hp=>by
  rcases first_at (c:=c) s with hn|⟨q,t,rfl,hq⟩
  ·rw[split_none hn]at hp
   rw[List.mem_singleton.1 hp];exact h
  ·obtain⟨h1,h2⟩:=h.split hc
   rw[split_at hq]at hp
   rcases List.mem_cons.1 hp with rfl|hp
   ·exact h1
   ·match n,hl with
    |0,hl=>simp at hl
    |n+1,hl=>exact OkS.pieces hc n t (by simp at hl;omega) h2 p hp
theorem bl_low{b:UInt8}(h:isBl b=true):b.toNat<128:=by
 rcases(isBl_iff b).1 h with rfl|rfl<;>decide
theorem OkS.trimL:∀ {s:List UInt8},OkS s→OkS (Sx.trimL s)
 |[],h=>h
 |b::s,h=>by
  unfold Sx.trimL
  rw[List.dropWhile_cons]
  split
  ·rename_i hb
   exact OkS.trimL ((OkS.split (x:=[]) (y:=s) h (bl_low hb)).2)
  ·exact h
theorem OkS.trimR:∀(n:Nat) {s:List UInt8},s.length≤n→OkS s→OkS (Sx.trimR s)
 |0,s,hl,h=>by rw[List.eq_nil_of_length_eq_zero (Nat.le_zero.1 hl)];exact OkS.nil
 |n+1,s,hl,h=>by
  rcases List.eq_nil_or_concat s with rfl|⟨s',b,rfl⟩
  ·exact OkS.nil
  ·rw[List.concat_eq_append]at*
   unfold Sx.trimR
   rw[List.reverse_append,List.reverse_singleton,List.singleton_append,List.dropWhile_cons]
   split
   ·rename_i hb
    exact OkS.trimR n (by simp at hl;omega) ((OkS.split (y:=[]) h (bl_low hb)).1)
   ·rw[List.reverse_cons,List.reverse_reverse]
    exact h
theorem OkS.trim{s:List UInt8}(h:OkS s):OkS (trimV s):=by
 rw[trimV_eq]
 exact(OkS.trimR s.length (Nat.le_refl _) h).trimL
theorem chk_okS{s:List UInt8}:∀(f k:Nat),s.length<walkP s k+f→(chkFrom s f k).2=0→OkS (s.drop (walkP s k))
 |0,k,hf,_=>by
  rw[List.drop_eq_nil_of_le (by omega)]
  exact OkS.nil
 |f+1,k,hf,h=>by
  rw[chkFrom]at h
  by_cases hp:walkP s k<s.length
  ·rw[if_pos hp]at h
   by_cases he:errAt s k=0
   ·rw[if_pos he]at h
    have hw:=decW s (walkP s k)
    have ih:=chk_okS f (k+1) (by rw[walkP];omega) h
    have hg:((decV s (walkP s k)).1≠65533∨(decV s (walkP s k)).2=3)∧¬((((decV s (walkP s k)).1:Int)<32∧((decV s (walkP s k)).1:Int)≠9)∨((decV s (walkP s k)).1:Int)=127):=by
     unfold errAt at he
     split at he
     ·cases he
     split at he
     ·cases he
     rename_i h2
     split at he
     ·cases he
     rename_i h3
     refine⟨?_,h3⟩
     rw[wrong_is]at h2
     have h4:isAt s k=true:=by simpa using h2
     unfold isAt at h4
     rw[Bool.or_eq_true]at h4
     rcases h4 with h4|h4
     ·left
      intro e
      have e':chrAt s k=65533:=by unfold chrAt;rw[e];rfl
      rw[e']at h4
      simp at h4
     ·right
      have:=of_decide_eq_true h4
      unfold widAt at this
      omega
    have hc:=chr_ok hp hg.1 hg.2
    have e:s.drop (walkP s k)=(s.drop (walkP s k)).take (decV s (walkP s k)).2++s.drop (walkP s (k+1)):=by
     rw[walkP,←List.drop_drop,List.take_append_drop]
    rw[e]
    exact OkS.cons hc ih
   ·rw[if_neg he]at h
    exact absurd h he
  ·rw[List.drop_eq_nil_of_le (by omega)]
   exact OkS.nil
theorem scan_okS{s:List UInt8}(h:scanE s=0):OkS s:=by
 have h1:(chkL s).2=0:=by
  unfold scanE at h
  split at h
  ·exact h
  ·rename_i h2
   exact Decidable.not_not.1 h2
 exact chk_okS (s.length+1) 0 (by rw[walkP];omega) h1
theorem dec_behind(a b:List UInt8):decV (a++b) a.length=decV b 0:=by
 have e:∀i,(a++b).getD (a.length+i) 0=b.getD i 0:=fun i=>by
  rw[List.getD_eq_getElem?_getD,List.getElem?_append_right (by omega),Nat.add_sub_cancel_left,←List.getD_eq_getElem?_getD]
 have e0:=e 0
 rw[Nat.add_zero]at e0
 rw[dec_N,dec_N,e0,e,e,e,List.length_append,Nat.add_sub_cancel_left]
 rfl
theorem okS_walk:∀(cs:List (List UInt8)),(∀c∈cs,OkC c)→∀k,k≤cs.length→walkP cs.flatten k=((cs.take k).flatten).length
 |cs,h,0,_=>by simp[walkP]
 |cs,h,k+1,hk=>by
  rw[walkP,okS_walk cs h k (by omega)]
  have hlt:k<cs.length:=by omega
  have e:cs.flatten=(cs.take k).flatten++(cs[k]++(cs.drop (k+1)).flatten):=by
   rw[←List.flatten_cons,←List.drop_eq_getElem_cons hlt,←List.flatten_append,List.take_append_drop]
  obtain⟨r,hr,_⟩:=(h cs[k] (List.getElem_mem hlt)).dec
  have hd:decV cs.flatten ((cs.take k).flatten).length=(r,cs[k].length):=by
   rw[e,dec_behind];exact hr _
  rw[hd,List.take_succ_eq_append_getElem hlt,List.flatten_append,List.length_append]
  simp
theorem okS_err{cs:List (List UInt8)}(h:∀c∈cs,OkC c){k:Nat}(hk:k<cs.length)(h4:k≠4096):errAt cs.flatten k=0:=by
 have hw:=okS_walk cs h k (by omega)
 have e:cs.flatten=(cs.take k).flatten++(cs[k]++(cs.drop (k+1)).flatten):=by
  rw[←List.flatten_cons,←List.drop_eq_getElem_cons hk,←List.flatten_append,List.take_append_drop]
 obtain⟨r,hr,h3,hc⟩:=(h cs[k] (List.getElem_mem hk)).dec
 have hd:decV cs.flatten (walkP cs.flatten k)=(r,cs[k].length):=by
  rw[hw]
  conv=>lhs;arg 1;rw[e]
  rw[dec_behind];exact hr _
 have hchr:chrAt cs.flatten k=(r:Int):=by unfold chrAt;rw[hd]
 have hwid:widAt cs.flatten k=cs[k].length:=by unfold widAt;rw[hd]
 unfold errAt
 rw[if_neg h4,if_neg,if_neg (by rw[hchr];exact hc)]
 rw[wrong_is]
 have:isAt cs.flatten k=true:=by
  unfold isAt
  rw[hchr,hwid]
  by_cases q:r=65533
  ·rw[h3 q];simp
  ·have:¬(r:Int)=65533:=by omega
   simp[this]
 rw[this]
 simp
theorem okS_chk{cs:List (List UInt8)}(h:∀c∈cs,OkC c)(hn:cs.length≤4096):chkL cs.flatten=(0,0):=by
 have hend:=okS_walk cs h cs.length (Nat.le_refl _)
 rw[List.take_length]at hend
 have key:∀f k,k≤cs.length→chkFrom cs.flatten f k=(0,0):=by
  intro f
  induction f with
  |zero=>intro k _;rfl
  |succ f ih=>
   intro k hk
   rw[chkFrom]
   by_cases hp:walkP cs.flatten k<cs.flatten.length
   ·have hk':k<cs.length:=by
     rcases Nat.lt_or_ge k cs.length with q|q
     ·exact q
     ·obtain rfl:k=cs.length:=by omega
      omega
    rw[if_pos hp,if_pos (okS_err h hk' (by omega)),ih (k+1) hk']
   ·rw[if_neg hp]
 exact key _ 0 (Nat.zero_le _)
end Go.Proofs.YtcbmonndkjihkaaGreatDoor.Sx
namespace Go.Proofs.YtcbmonndkjihkaaGreatDoor.Sx
attribute [local irreducible] OkQ Ok
set_option linter.unusedSimpArgs false
set_option linter.unusedVariables false
set_option maxRecDepth 8000
structure CellOk(f:List UInt8):Prop where
 ok:OkS f
 low:∀b∈f,b≠10∧b≠59∧b≠35
 tr:trimV f=f
theorem ascC{b:UInt8}(h:32≤b.toNat∧b.toNat≤126):OkC [b]:=by
 have hb:∀t,decV ([b]++t) 0=(b.toNat,1):=fun t=>by
  have e:([b]++t).getD 0 0=b:=rfl
  have:=dec_ascii (s:=[b]++t) (p:=0) (by rw[e];omega)
  rw[e]at this
  exact this
 exact⟨⟨b.toNat,hb,fun e=>by omega,by omega⟩,by simp,.inl ⟨b,rfl⟩⟩
theorem ascS_ok:∀ {s:List UInt8},ascS s→OkS s
 |[],_=>OkS.nil
 |b::s,h=>OkS.cons (ascC (h b (List.mem_cons_self ..))) (ascS_ok fun x hx=>h x (List.mem_cons_of_mem _ hx))
theorem split_join:∀(l:List (List UInt8)) (x:List UInt8),(∀f∈x::l,∀b∈f,b≠59)→splitV 59 (Lib.join (x::l) [59])=x::l
 |[],x,h=>by
  rw[Lib.join_one]
  exact split_none (h x (List.mem_cons_self ..))
 |y::l,x,h=>by
  have e:Lib.join (x::y::l) [59]=x++59::Lib.join (y::l) [59]:=by
   rw[Lib.join_cons,Lib.join_cons]
   simp[Lib.joinTail]
  rw[e,split_at (h x (List.mem_cons_self ..)),split_join l y fun f hf=>h f (List.mem_cons_of_mem _ hf)]
theorem join_mem:∀(l:List (List UInt8)) (x:List UInt8) (b:UInt8),b∈Lib.join (x::l) [59]→b=59∨∃f∈x::l,b∈f
 |[],x,b,h=>by
  rw[Lib.join_one]at h
  exact .inr ⟨x,List.mem_cons_self ..,h⟩
 |y::l,x,b,h=>by
  have e:Lib.join (x::y::l) [59]=x++59::Lib.join (y::l) [59]:=by
   rw[Lib.join_cons,Lib.join_cons]
   simp[Lib.joinTail]
  rw[e]at h
  rcases List.mem_append.1 h with h|h
  ·exact .inr ⟨x,List.mem_cons_self ..,h⟩
  rcases List.mem_cons.1 h with h|h
  ·exact .inl h
  ·rcases join_mem l y b h with h|⟨f,hf,hb⟩
   ·exact .inl h
   ·exact .inr ⟨f,List.mem_cons_of_mem _ hf,hb⟩
theorem join_ok:∀(l:List (List UInt8)) (x:List UInt8),(∀f∈x::l,OkS f)→OkS (Lib.join (x::l) [59])
 |[],x,h=>by rw[Lib.join_one];exact h x (List.mem_cons_self ..)
 |y::l,x,h=>by
  have e:Lib.join (x::y::l) [59]=x++([59]++Lib.join (y::l) [59]):=by
   rw[Lib.join_cons,Lib.join_cons]
   simp[Lib.joinTail]
  rw[e]
  exact OkS.app (h x (List.mem_cons_self ..)) (OkS.cons (ascC (by decide)) (join_ok l y fun f hf=>h f (List.mem_cons_of_mem _ hf)))
theorem trim_id{h b:UInt8}{m:List UInt8}(hh:isBl h=false)(hb:isBl b=false):trimV (h::(m++[b]))=h::(m++[b]):=by
 have e:trimR (h::(m++[b]))=h::(m++[b]):=by
  unfold trimR
  rw[←List.cons_append,List.reverse_append,List.reverse_singleton,List.singleton_append,List.dropWhile_cons,hb]
  rw[if_neg (by simp),List.reverse_cons,List.reverse_reverse]
 rw[trimV_eq,e]
 unfold trimL
 rw[List.dropWhile_cons,hh]
 rfl
theorem cells_line{x:List UInt8}{l:List (List UInt8)}(hc:∀f∈x::l,CellOk f){h b:UInt8}{m:List UInt8}(hp:Lib.join (x::l) [59]=h::(m++[b]))(hh:isBl h=false)(hb:isBl b=false)(h64:h≠64)(no:Int):
 isOrd (Lib.join (x::l) [59])=false∧partsV no (Lib.join (x::l) [59])=(no,1,[],x::l,[],()):=by
 have hno:∀y∈Lib.join (x::l) [59],y≠35:=fun y hy=>by
  rcases join_mem l x y hy with rfl|⟨f,hf,hy⟩
  ·decide
  ·exact((hc f hf).low y hy).2.2
 have ht:trimV (Lib.join (x::l) [59])=Lib.join (x::l) [59]:=by rw[hp];exact trim_id hh hb
 obtain⟨c1,c2,_⟩:=cut_none hno
 have hl:lhdV (Lib.join (x::l) [59])=Lib.join (x::l) [59]:=by unfold lhdV;rw[c1,ht]
 have hO:isOrd (Lib.join (x::l) [59])=false:=by
  unfold isOrd
  rw[hl,hp]
  cases hq:Lib.hasPrefix (h::(m++[b])) [64]
  ·rfl
  ·obtain⟨t,ht⟩:=List.isPrefixOf_iff_prefix.1 hq
   exact absurd (List.cons.inj ht).1.symm h64
 have hF:fieldsV (Lib.join (x::l) [59])=x::l:=by
  unfold fieldsV
  rw[if_neg (by rw[ht,hp];simp),split_join l x fun f hf y hy=>((hc f hf).low y hy).2.1]
  have key:∀ys:List (List UInt8),(∀f∈ys,CellOk f)→ys.map trimV=ys:=by
   intro ys
   induction ys with
   |nil=>intro _;rfl
   |cons f ys ih=>intro h;rw[List.map_cons,(h f (List.mem_cons_self ..)).tr,ih fun g hg=>h g (List.mem_cons_of_mem _ hg)]
  exact key _ hc
 have hN:noteV (Lib.join (x::l) [59])=[]:=by
  unfold noteV
  rw[c2]
  rfl
 refine⟨hO,?_⟩
 unfold partsV
 rw[if_neg (by rw[hO];simp),if_pos (by rw[hl,hp];simp),c1,hF,hN]
theorem cnt_chars{cs:List (List UInt8)}(h:∀c∈cs,OkC c):cntV cs.flatten=cs.length:=by
 have hend:=okS_walk cs h cs.length (Nat.le_refl _)
 rw[List.take_length]at hend
 have hle:=walkP_le cs.flatten cs.length
 have key:∀f k,k≤cs.length→cs.length<k+f→cntFrom cs.flatten f k=cs.length:=by
  intro f
  induction f with
  |zero=>intro k h1 h2;omega
  |succ f ih=>
   intro k h1 h2
   rw[cntFrom]
   by_cases hp:walkP cs.flatten k<cs.flatten.length
   ·have hk':k<cs.length:=by
     rcases Nat.lt_or_ge k cs.length with q|q
     ·exact q
     ·obtain rfl:k=cs.length:=by omega
      omega
    rw[if_pos hp]
    exact ih (k+1) hk' (by omega)
   ·rw[if_neg hp]
    rcases Nat.lt_or_ge k cs.length with q|q
    ·have hw:=okS_walk cs h k (by omega)
     have e:cs.flatten=(cs.take k).flatten++(cs[k]++(cs.drop (k+1)).flatten):=by
      rw[←List.flatten_cons,←List.drop_eq_getElem_cons q,←List.flatten_append,List.take_append_drop]
     have hl:=congrArg List.length e
     have hne:=List.length_pos_iff.2 (h cs[k] (List.getElem_mem q)).ne
     rw[List.length_append,List.length_append]at hl
     omega
    ·omega
 exact key _ 0 (Nat.zero_le _) (by omega)
end Go.Proofs.YtcbmonndkjihkaaGreatDoor.Sx
namespace Go.Proofs.YtcbmonndkjihkaaGreatDoor.Sx
attribute [local irreducible] OkQ Ok
set_option linter.unusedSimpArgs false
set_option linter.unusedVariables false
set_option maxRecDepth 8000
def OkN(n:Nat)(s:List UInt8):Prop:=∃cs:List (List UInt8),s=cs.flatten∧(∀c∈cs,OkC c)∧cs.length≤n
theorem flat_ge:∀ {cs:List (List UInt8)},(∀c∈cs,OkC c)→cs.length≤cs.flatten.length
 |[],_=>Nat.zero_le _
 |c::cs,h=>by
  have h1:=List.length_pos_iff.2 (h c (List.mem_cons_self ..)).ne
  have h2:=flat_ge (cs:=cs) fun x hx=>h x (List.mem_cons_of_mem _ hx)
  rw[List.flatten_cons,List.length_append,List.length_cons]
  omega
theorem OkS.len{s:List UInt8}(h:OkS s):OkN s.length s:=by
 obtain⟨cs,rfl,k⟩:=h
 exact⟨cs,rfl,k,flat_ge k⟩
theorem OkS.cnt{s:List UInt8}(h:OkS s):OkN (cntV s) s:=by
 obtain⟨cs,rfl,k⟩:=h
 exact⟨cs,rfl,k,by rw[cnt_chars k];exact Nat.le_refl _⟩
theorem OkN.app{n m:Nat}{a b:List UInt8}(ha:OkN n a)(hb:OkN m b):OkN (n+m) (a++b):=by
 obtain⟨cs,rfl,h,h'⟩:=ha
 obtain⟨ds,rfl,k,k'⟩:=hb
 exact⟨cs++ds,by rw[List.flatten_append],fun x hx=>(List.mem_append.1 hx).elim (h x) (k x),by rw[List.length_append];omega⟩
theorem OkN.chk{n:Nat}{s:List UInt8}(h:OkN n s)(hn:n≤4096):chkL s=(0,0):=by
 obtain⟨cs,rfl,k,hl⟩:=h
 exact okS_chk k (by omega)
theorem CellOk.nil:CellOk []:=⟨OkS.nil,fun b h=>(by cases h),by decide⟩
theorem CellOk.plain{s:List UInt8}(h:∀b∈s,33≤b.toNat∧b.toNat≤126∧b≠59∧b≠35):CellOk s:=by
 refine⟨ascS_ok fun b hb=>?_,fun b hb=>?_,?_⟩
 ·have:=h b hb
  omega
 ·have:=h b hb
  refine⟨fun e=>?_,this.2.2⟩
  rw[e]at this
  exact absurd this.1 (by decide)
 ·have hbl:∀b∈s,isBl b=false:=fun b hb=>by
   have:=h b hb
   cases q:isBl b
   ·rfl
   ·rcases(isBl_iff b).1 q with rfl|rfl
    ·exact absurd this.1 (by decide)
    ·exact absurd this.1 (by decide)
  cases s with
  |nil=>decide
  |cons x s=>
   rcases List.eq_nil_or_concat s with rfl|⟨m,b,rfl⟩
   ·have hx:=hbl x (List.mem_cons_self ..)
    rw[trimV_eq]
    have e:Sx.trimR [x]=[x]:=by
     unfold Sx.trimR
     rw[List.reverse_singleton,List.dropWhile_cons,hx]
     rfl
    rw[e]
    unfold Sx.trimL
    rw[List.dropWhile_cons,hx]
    rfl
   ·rw[List.concat_eq_append]
    exact trim_id (hbl x (List.mem_cons_self ..)) (hbl b (by simp))
theorem show_plain(x:Int):∀b∈showV x,48≤b.toNat∧b.toNat≤70∧b≠59∧b≠35∧b≠64:=fun b hb=>by
 have key:∀k,∀b∈hxTo x.toNat k,∃j,j<16∧b=hxD j:=by
  intro k
  induction k with
  |zero=>intro b h;cases h
  |succ k ih=>
   intro b h
   rw[hxTo]at h
   rcases List.mem_append.1 h with h|h
   ·exact ih b h
   ·exact⟨_,Nat.mod_lt _ (by omega),List.mem_singleton.1 h⟩
 unfold showV at hb
 split at hb
 ·obtain⟨j,hj,rfl⟩:=key _ b (List.mem_reverse.1 hb)
  have:∀j,j<16→48≤(hxD j).toNat∧(hxD j).toNat≤70∧hxD j≠59∧hxD j≠35∧hxD j≠64:=by decide
  exact this j hj
 ·cases hb
theorem show_cell(x:Int):CellOk (showV x):=CellOk.plain fun b hb=>by
 have:=show_plain x b hb
 exact⟨by omega,by omega,this.2.2.1,this.2.2.2.1⟩
structure GoodR(r:RowD)(nm:List UInt8)(x:Int):Prop where
 x0:0≤x∧x≤1114111
 name:CellOk nm
 cnt:1≤cntV nm∧cntV nm≤256
 cat:catOk r.2.2.2.2.1=true
 comb:∃s,CellOk s∧combV s=r.2.2.2.2.2.1∧0≤combV s
 cls:∃s,CellOk s∧clsOf s=r.2.2.2.2.2.2.1∧clsOf s≠0
 tw:0≤r.2.2.2.2.2.2.2.1∧r.2.2.2.2.2.2.2.1≤1114111
theorem cat_cell{s:List UInt8}(h:catOk s=true):CellOk s:=by
 refine CellOk.plain fun b hb=>?_
 match s,h,hb with
 |[u,v],h,hb=>
  unfold catOk at h
  simp only[Bool.and_eq_true,decide_eq_true_eq]at h
  obtain⟨h1,h2,h3,h4⟩:=h
  have k:b=u∨b=v:=by simpa using hb
  have hne:∀c:UInt8,65≤c.toNat→c≠59∧c≠35:=fun c hc=>⟨fun e=>by rw[e]at hc;exact absurd hc (by decide),fun e=>by rw[e]at hc;exact absurd hc (by decide)⟩
  rcases k with rfl|rfl
  ·exact⟨by omega,by omega,hne _ (by omega)⟩
  ·exact⟨by omega,by omega,hne _ (by omega)⟩
theorem good_cells{r:RowD}{nm:List UInt8}{x:Int}(g:GoodR r nm x):∀f∈cellsL r nm x,CellOk f:=by
 obtain⟨s3,k3,e3,g3⟩:=g.comb
 obtain⟨s4,k4,e4,g4⟩:=g.cls
 have h3:Lib.itoa r.2.2.2.2.2.1=s3:=by rw[←e3];exact comb_show g3
 have h4:(nmV r.2.2.2.2.2.2.1).1=s4:=by rw[←e4];exact cls_show g4
 have ht:CellOk (twinV r):=by
  unfold twinV
  split
  ·exact CellOk.nil
  ·exact show_cell _
 have hf:CellOk (flagV r):=by
  unfold flagV
  split
  ·exact CellOk.plain (by decide)
  ·exact CellOk.plain (by decide)
 intro f hm
 unfold cellsL at hm
 rw[h3,h4]at hm
 simp only[List.mem_cons,List.not_mem_nil,or_false]at hm
 rcases hm with rfl|rfl|rfl|rfl|rfl|rfl|rfl|rfl|rfl|rfl|rfl|rfl|rfl|rfl|rfl
 ·exact show_cell x
 ·exact g.name
 ·exact cat_cell g.cat
 ·exact k3
 ·exact k4
 ·exact ht
 all_goals first|exact CellOk.nil|exact hf
def restL(r:RowD):List (List UInt8):=[r.2.2.2.2.1,Lib.itoa r.2.2.2.2.2.1,(nmV r.2.2.2.2.2.2.1).1,twinV r,[],[],[],flagV r,[],[],[],[],[]]
theorem join_two(r:RowD)(nm:List UInt8)(x:Int):Lib.join (cellsL r nm x) [59]=showV x++([59]++(nm++([59]++Lib.join (restL r) [59]))):=by
 unfold cellsL restL
 rw[Lib.join_cons,Lib.join_cons]
 simp[Lib.joinTail]
theorem rest_end(r:RowD):∃m,Lib.join (restL r) [59]=m++[59]:=by
 unfold restL
 rw[Lib.join_cons]
 refine⟨r.2.2.2.2.1++59::(Lib.itoa r.2.2.2.2.2.1++59::((nmV r.2.2.2.2.2.2.1).1++59::(twinV r++59::59::59::59::(flagV r++[59,59,59,59])))),?_⟩
 simp[Lib.joinTail]
theorem good_line{r:RowD}{nm:List UInt8}{x:Int}(g:GoodR r nm x):scanE (Lib.join (cellsL r nm x) [59])=0∧(∀b∈Lib.join (cellsL r nm x) [59],b≠10)∧(∃m,Lib.join (cellsL r nm x) [59]=m++[59])∧∀no:Int,partsV no (Lib.join (cellsL r nm x) [59])=(no,1,[],cellsL r nm x,[],()):=by
 have hc:=good_cells g
 have hcc:∀f∈showV x::(cellsL r nm x).tail,CellOk f:=hc
 have hcs:cellsL r nm x=showV x::(cellsL r nm x).tail:=rfl
 have h2:=join_two r nm x
 obtain⟨m,hm⟩:=rest_end r
 have hne:showV x≠[]:=fun e=>by
  have:=(show_hex g.x0.1 g.x0.2).1
  rw[e]at this
  exact absurd this (by decide+kernel)
 obtain⟨h,l,hhl⟩:∃h l,showV x=h::l:=by
  cases hq:showV x with
  |nil=>exact absurd hq hne
  |cons h l=>exact⟨h,l,rfl⟩
 have hh:=show_plain x h (by rw[hhl];exact List.mem_cons_self ..)
 have hbl:isBl h=false:=by
  cases q:isBl h
  ·rfl
  ·rcases(isBl_iff h).1 q with rfl|rfl
   ·exact absurd hh.1 (by decide)
   ·exact absurd hh.1 (by decide)
 have hp:Lib.join (showV x::(cellsL r nm x).tail) [59]=h::((l++([59]++(nm++([59]++m))))++[59]):=by
  rw[←hcs,h2,hm,hhl]
  simp
 have hparts:=fun no=>cells_line hcc hp hbl (by decide) hh.2.2.2.2 no
 rw[←hcs]at hparts hp
 refine⟨?_,fun b hb=>?_,⟨_,by rw[hp,←List.cons_append]⟩,fun no=>(hparts no).2⟩
 ·have hrest:∀f∈restL r,OkS f:=fun f hf=>(hc f (by
   show f∈showV x::nm::restL r
   exact List.mem_cons_of_mem _ (List.mem_cons_of_mem _ hf))).ok
  have hO:OkS (Lib.join (restL r) [59]):=join_ok _ _ hrest
  have e2:(twinV r).length≤6:=by
   unfold twinV
   split
   ·simp
   ·exact show_len _
  have e3:(flagV r).length=1:=by unfold flagV;split<;>rfl
  have e4:=nmV_len r.2.2.2.2.2.2.1
  obtain⟨s3,k3,g3,g4⟩:=g.comb
  have e5:=comb_back g4
  have e6:=itoa_len (n:=r.2.2.2.2.2.1) (by omega) (by omega)
  have e7:r.2.2.2.2.1.length=2:=((cat_iff _).1 g.cat).1
  have hl:(Lib.join (restL r) [59]).length≤200:=by
   unfold restL
   rw[Lib.join_cons]
   simp only[Lib.joinTail,List.map_cons,List.map_nil,List.flatten_cons,List.flatten_nil,List.length_append,List.length_cons,List.length_nil,List.append_nil]
   omega
  have e1:=show_len x
  have h59:OkN 1 [59]:=⟨[[59]],rfl,fun c hc=>by rw[List.mem_singleton.1 hc];exact ascC (by decide),Nat.le_refl _⟩
  have hN:=OkN.app (show_cell x).ok.len (OkN.app h59 (OkN.app g.name.ok.cnt (OkN.app h59 hO.len)))
  rw[←h2]at hN
  have hk:=hN.chk (by have:=g.cnt.2;omega)
  unfold scanE
  have hO2:=(hparts 0).1
  rw[hk,if_neg (by simp),if_neg (by rw[hO2];simp)]
 ·rw[hcs]at hb
  rcases join_mem _ _ b hb with rfl|⟨f,hf,hb⟩
  ·decide
  ·exact((hcc f hf).low b hb).1
theorem good_row{r:RowD}{nm:List UInt8}{x:Int}(g:GoodR r nm x)(no:Int):rowE (no,1,[],cellsL r nm x,[],())=0∧rowR (no,1,[],cellsL r nm x,[],())=(no,x,x,nm,r.2.2.2.2):=by
 obtain⟨e1,e2⟩:=show_hex g.x0.1 g.x0.2
 obtain⟨s3,k3,g3,g4⟩:=g.comb
 obtain⟨s4,k4,f3,f4⟩:=g.cls
 have h3:Lib.itoa r.2.2.2.2.2.1=s3:=by rw[←g3];exact comb_show g4
 have h4:(nmV r.2.2.2.2.2.2.1).1=s4:=by rw[←f3];exact cls_show f4
 have hm:madeOk (twinV r)=true∧madeV (twinV r)=r.2.2.2.2.2.2.2.1:=by
  unfold twinV
  split
  ·rename_i h0
   exact⟨by decide+kernel,by rw[h0];decide+kernel⟩
  ·rename_i h0
   exact made_show g.tw.1 g.tw.2 h0
 have hf:decide (flagV r=[89])=r.2.2.2.2.2.2.2.2.1∧¬(flagV r≠[89]∧flagV r≠[78]):=by
  unfold flagV
  cases r.2.2.2.2.2.2.2.2.1
  ·exact⟨rfl,fun h=>h.2 rfl⟩
  ·exact⟨rfl,fun h=>h.1 rfl⟩
 constructor
 ·show(if(1:Int)=2 then(33:Int)else if(1:Int)≠1∨(cellsL r nm x).length≠15 then 60 else
   if hexE (showV x)≠0 then 40 else if cntV nm<1∨256<cntV nm then 61 else if catOk r.2.2.2.2.1=false then 63 else
   if combV (Lib.itoa r.2.2.2.2.2.1)<0 then 64 else if clsOf (nmV r.2.2.2.2.2.2.1).1=0 then 50 else if madeOk (twinV r)=false then 65 else
   if flagV r≠[89]∧flagV r≠[78]then 66 else 0)=0
  rw[if_neg (by decide),if_neg (by rintro(h|h);·exact h rfl
                                   ·exact h rfl),if_neg (by rw[e1];simp),if_neg (by have:=g.cnt;omega),if_neg (by rw[g.cat];simp),if_neg (by rw[h3];omega),if_neg (by rw[h4];exact f4),if_neg (by rw[hm.1];simp),if_neg hf.2]
 ·show(no,hexV (showV x),hexV (showV x),nm,r.2.2.2.2.1,combV (Lib.itoa r.2.2.2.2.2.1),clsOf (nmV r.2.2.2.2.2.2.1).1,madeV (twinV r),decide (flagV r=[89]),())=_
  rw[e2,h3,h4,hm.2,hf.1,g3,f3]
end Go.Proofs.YtcbmonndkjihkaaGreatDoor.Sx
namespace Go.Proofs.YtcbmonndkjihkaaGreatDoor.Sx
attribute [local irreducible] OkQ Ok
set_option linter.unusedSimpArgs false
set_option linter.unusedVariables false
set_option maxRecDepth 8000
theorem cr_end{m:List UInt8}:dropCR (m++[59])=m++[59]:=by
 unfold dropCR
 refine if_neg ?_
 rintro⟨_,h⟩
 rw[List.length_append,List.length_singleton,Nat.add_sub_cancel,List.getD_eq_getElem?_getD,List.getElem?_append_right (Nat.le_refl _),Nat.sub_self]at h
 exact absurd h (by decide)
theorem line_one{r:RowD}{nm:List UInt8}{x:Int}(g:GoodR r nm x)(s:List UInt8):lnS (lineR r nm x++s)=Lib.join (cellsL r nm x) [59]::lnS s:=by
 obtain⟨_,h1,⟨m,hm⟩,_⟩:=good_line g
 have e:lineR r nm x++s=Lib.join (cellsL r nm x) [59]++10::s:=by unfold lineR;simp
 rw[e,lnS_at h1,hm,cr_end]
theorem right_of{r:RowD}{L:List LnD}{ls:List (List UInt8)}{y:RowD}(h1:lnS (oneV r)=ls)(h2:∀s∈ls,scanE s=0)(h3:partsL 1 ls=L)(h4:rdFold L [] none=(0,0,[y]))(h5:y.2=r.2):rightB r=true:=by
 have hb:bomN (oneV r)=0:=by have:=one_bom r [];rwa [List.append_nil]at this
 have e:rowsV (oneV r)=(0,0,[y]):=by
  rw[rowsV_eq,hb,List.drop_zero,h1,scL_good _ 1 [] h2,h3]
  unfold rowsOf
  rw[if_neg (by simp),List.nil_append]
  exact h4
 unfold rightB
 rw[e,Bool.and_eq_true,decide_eq_true_eq,decide_eq_true_eq]
 refine⟨rfl,?_⟩
 show [noLn y]=[noLn r]
 unfold noLn
 rw[h5]
theorem sk1(no:Int)(a:List UInt8)(f:List (List UInt8))(b:List UInt8×Unit):¬skipL (no,1,a,f,b)=true:=by
 show¬(decide ((1:Int)=0)||decide ((1:Int)=3))=true
 decide
theorem good_single{r:RowD}(hx:r.2.1=r.2.2.1)(g:GoodR r r.2.2.2.1 r.2.1)(hh:(halfV r.2.2.2.1).2.1=false∧(halfV r.2.2.2.1).2.2=false):rightB r=true:=by
 obtain⟨g1,_,_,g4⟩:=good_line g
 obtain⟨q1,q2⟩:=good_row g 1
 have hl:lnS (oneV r)=[Lib.join (cellsL r r.2.2.2.1 r.2.1) [59]]:=by
  have h:=line_one g []
  rw[List.append_nil,lnS_nil]at h
  unfold oneV
  rw[if_pos hx,h]
 refine right_of (L:=[(1,1,[],cellsL r r.2.2.2.1 r.2.1,[],())]) (y:=rowR (1,1,[],cellsL r r.2.2.2.1 r.2.1,[],())) hl (fun s hs=>by rw[List.mem_singleton.1 hs];exact g1) (by rw[partsL,partsL];exact congrArg (fun z=>[z]) (g4 1)) ?_ ?_
 ·have e0:=show_hex g.x0.1 g.x0.2
  have hE:stepE [] none (1,1,[],cellsL r r.2.2.2.1 r.2.1,[],())=0:=by
   unfold stepE
   rw[if_neg (by rw[q1];simp)]
   show(if(halfV r.2.2.2.1).2.2=true then(61:Int)else if hexV (showV r.2.1)≤lastR []then 62 else 0)=0
   rw[if_neg (by rw[hh.2];simp),e0.2]
   exact if_neg (by have:=g.x0.1;show¬r.2.1≤ -1;omega)
  rw[rdFold,if_neg (sk1 _ _ _ _),if_neg (by rw[hE];simp)]
  have e1:stepO [] none (1,1,[],cellsL r r.2.2.2.1 r.2.1,[],())=[rowR (1,1,[],cellsL r r.2.2.2.1 r.2.1,[],())]:=if_neg (by show¬(halfV r.2.2.2.1).2.1=true;rw[hh.1];simp)
  have e2:stepW none (1,1,[],cellsL r r.2.2.2.1 r.2.1,[],())=none:=if_neg (by show¬(halfV r.2.2.2.1).2.1=true;rw[hh.1];simp)
  rw[e1,e2,rdFold]
 ·rw[q2]
  show(r.2.1,r.2.1,r.2.2.2.1,r.2.2.2.2)=r.2
  conv=>lhs;arg 2;arg 1;rw[hx]
theorem half_fst{nm:List UInt8}(h:nm≠[]):halfV ([60]++nm++fstS)=(nm,true,false):=by
 have hl:=List.length_pos_iff.2 h
 have h1:halfOf ([60]++nm++fstS) fstS=true:=by
  have e:[60]++nm++fstS=60::(nm++fstS):=by simp
  rw[e,half_cons _ _ (by decide)]
  unfold Lib.hasSuffix Lib.trimSuffix Lib.hasSuffix
  have hs:fstS.isSuffixOf (nm++fstS)=true:=List.isSuffixOf_iff_suffix.2 (List.suffix_append _ _)
  rw[hs,if_pos rfl,Bool.true_and,Bool.not_eq_true',decide_eq_false_iff_not]
  intro q
  exact h (by simpa using q)
 unfold halfV
 rw[if_pos h1]
 unfold plainOf
 simp[fstS]
theorem half_lst{nm:List UInt8}(h:nm≠[]):halfV ([60]++nm++lstS)=(nm,false,true):=by
 have e:[60]++nm++lstS=60::(nm++lstS):=by simp
 have h0:halfOf ([60]++nm++lstS) fstS=false:=by
  rw[e,half_cons _ _ (by decide)]
  have hs:Lib.hasSuffix (nm++lstS) fstS=false:=by
   unfold Lib.hasSuffix
   cases q:fstS.isSuffixOf (nm++lstS)
   ·rfl
   ·obtain⟨t,ht⟩:=List.isSuffixOf_iff_suffix.1 q
    have h2:=congrArg List.reverse ht
    rw[List.reverse_append,List.reverse_append]at h2
    have h3:=congrArg (fun l=>l.getD 3 0) h2
    simp[fstS,lstS]at h3
  rw[hs]
  rfl
 have h1:halfOf ([60]++nm++lstS) lstS=true:=by
  rw[e,half_cons _ _ (by decide)]
  unfold Lib.hasSuffix Lib.trimSuffix Lib.hasSuffix
  have hs:lstS.isSuffixOf (nm++lstS)=true:=List.isSuffixOf_iff_suffix.2 (List.suffix_append _ _)
  rw[hs,if_pos rfl,Bool.true_and,Bool.not_eq_true',decide_eq_false_iff_not]
  intro q
  exact h (by simpa using q)
 unfold halfV
 rw[if_neg (by rw[h0];simp),if_pos h1]
 unfold plainOf
 simp[lstS]
theorem good_pair{r:RowD}(hx:r.2.1<r.2.2.1)(hne:r.2.2.2.1≠[])(g:GoodR r ([60]++r.2.2.2.1++fstS) r.2.1)(k:GoodR r ([60]++r.2.2.2.1++lstS) r.2.2.1):rightB r=true:=by
 obtain⟨g1,_,_,g4⟩:=good_line g
 obtain⟨k1,_,_,k4⟩:=good_line k
 obtain⟨q1,q2⟩:=good_row g 1
 obtain⟨p1,p2⟩:=good_row k 2
 obtain⟨F,hF⟩:∃F,F=[60]++r.2.2.2.1++fstS:=⟨_,rfl⟩
 obtain⟨E,hE⟩:∃E,E=[60]++r.2.2.2.1++lstS:=⟨_,rfl⟩
 have hhF:halfV F=(r.2.2.2.1,true,false):=by rw[hF];exact half_fst hne
 have hhE:halfV E=(r.2.2.2.1,false,true):=by rw[hE];exact half_lst hne
 have hl:lnS (oneV r)=[Lib.join (cellsL r F r.2.1) [59],Lib.join (cellsL r E r.2.2.1) [59]]:=by
  have h1:=line_one g (lineR r ([60]++r.2.2.2.1++lstS) r.2.2.1)
  have h2:=line_one k []
  rw[List.append_nil,lnS_nil]at h2
  rw[h2]at h1
  unfold oneV
  rw[if_neg (by omega),h1,hF,hE]
 rw[←hF]at g1 g4 q1 q2 g
 rw[←hE]at k1 k4 p1 p2 k
 have e0:=show_hex g.x0.1 g.x0.2
 obtain⟨l1,hl1⟩:∃l:LnD,l=(1,1,[],cellsL r F r.2.1,[],()):=⟨_,rfl⟩
 obtain⟨l2,hl2⟩:∃l:LnD,l=(2,1,[],cellsL r E r.2.2.1,[],()):=⟨_,rfl⟩
 have f1:fld l1 1=F:=by rw[hl1];rfl
 have s1:¬skipL l1=true:=by rw[hl1];exact sk1 _ _ _ _
 have s2:¬skipL l2=true:=by rw[hl2];exact sk1 _ _ _ _
 rw[←hl1]at q1 q2
 rw[←hl2]at p1 p2
 have hE1:stepE [] none l1=0:=by
  unfold stepE
  rw[if_neg (by rw[q1];simp)]
  show(if(halfV (fld l1 1)).2.2=true then(61:Int)else if hexV (fld l1 0)≤lastR []then 62 else 0)=0
  have e:hexV (fld l1 0)=r.2.1:=by rw[hl1];exact e0.2
  rw[f1,hhF,if_neg (by simp),e]
  exact if_neg (by have:=g.x0.1;show¬r.2.1≤ -1;omega)
 have hO1:stepO [] none l1=[]:=if_pos (by rw[f1,hhF])
 have hW1:stepW none l1=some (rowR l1,l1.2.2.2.1,r.2.2.2.1):=by
  have:stepW none l1=if(halfV (fld l1 1)).2.1=true then some (rowR l1,l1.2.2.2.1,(halfV (fld l1 1)).1)else none:=rfl
  rw[this,f1,hhF,if_pos rfl]
 have hE2:stepE [] (some (rowR l1,l1.2.2.2.1,r.2.2.2.1)) l2=0:=by
  unfold stepE
  rw[if_neg (by rw[p1];simp)]
  show joinE (rowR l1,l1.2.2.2.1,r.2.2.2.1) l2 (rowR l2)=0
  unfold joinE
  rw[p2,q2]
  dsimp only
  rw[hhE,if_neg (by simp),if_neg (by omega)]
  refine if_neg ?_
  have hp:pairB l2.2.2.2.1 l1.2.2.2.1=true:=by
   rw[hl1,hl2]
   unfold pairB
   rw[List.all_eq_true]
   intro i hi
   have hi:=List.mem_range.1 hi
   rw[Bool.or_eq_true,decide_eq_true_eq,decide_eq_true_eq]
   match i,hi with
   |0,_=>exact .inl (by decide)
   |1,_=>exact .inl (by decide)
   |i+2,_=>exact .inr rfl
  rw[hp]
  simp
 refine right_of (L:=[l1,l2]) (y:=joinR (rowR l1,l1.2.2.2.1,r.2.2.2.1) (rowR l2)) hl (fun s hs=>?_) ?_ ?_ ?_
 ·simp only[List.mem_cons,List.not_mem_nil,or_false]at hs
  rcases hs with rfl|rfl
  ·exact g1
  ·exact k1
 ·have a1:partsV ((1:Nat):Int) (Lib.join (cellsL r F r.2.1) [59])=l1:=by rw[hl1];exact g4 1
  have a2:partsV ((1+1:Nat):Int) (Lib.join (cellsL r E r.2.2.1) [59])=l2:=by rw[hl2];exact k4 2
  rw[partsL,partsL,partsL,a1,a2]
 ·rw[rdFold,if_neg s1,if_neg (by rw[hE1];simp),hO1,hW1,rdFold,if_neg s2,if_neg (by rw[hE2];simp)]
  have e1:stepO [] (some (rowR l1,l1.2.2.2.1,r.2.2.2.1)) l2=[joinR (rowR l1,l1.2.2.2.1,r.2.2.2.1) (rowR l2)]:=rfl
  have e2:stepW (some (rowR l1,l1.2.2.2.1,r.2.2.2.1)) l2=none:=rfl
  rw[e1,e2,rdFold]
 ·unfold joinR
  rw[p2,q2]
  dsimp only
  rw[hhE]
end Go.Proofs.YtcbmonndkjihkaaGreatDoor.Sx
namespace Go.Proofs.YtcbmonndkjihkaaGreatDoor.Sx
attribute [local irreducible] OkQ Ok
set_option linter.unusedSimpArgs false
set_option linter.unusedVariables false
set_option maxRecDepth 8000
theorem cr_sub{p:List UInt8}{b:UInt8}(h:b∈dropCR p):b∈p:=by
 unfold dropCR at h
 split at h
 ·exact List.mem_of_mem_take h
 ·exact h
theorem lnS_no10:∀(n:Nat) (s:List UInt8),s.length≤n→∀p∈lnS s,∀b∈p,b≠10
 |n,s,hl,p,hp,b,hb=>by
  rcases first_at (c:=10) s with hn|⟨q,t,rfl,hq⟩
  ·by_cases h0:s=[]
   ·rw[h0,lnS_nil]at hp
    cases hp
   ·rw[lnS_none h0 hn]at hp
    rw[List.mem_singleton.1 hp]at hb
    exact hn b hb
  ·rw[lnS_at hq]at hp
   rcases List.mem_cons.1 hp with rfl|hp
   ·exact hq b (cr_sub hb)
   ·match n,hl with
    |0,hl=>simp at hl
    |n+1,hl=>exact lnS_no10 n t (by simp at hl;omega) p hp b hb
theorem trim_sub{p:List UInt8}{b:UInt8}(h:b∈trimV p):b∈p:=by
 rw[trimV_eq]at h
 unfold trimL at h
 have h1:=(List.dropWhile_sublist _).subset h
 unfold trimR at h1
 have h2:=List.mem_reverse.1 h1
 exact List.mem_reverse.1 ((List.dropWhile_sublist _).subset h2)
theorem split_sub{c:UInt8}:∀(n:Nat) (s:List UInt8),s.length≤n→∀p∈splitV c s,∀b∈p,b∈s∧b≠c
 |n,s,hl,p,hp,b,hb=>by
  rcases first_at (c:=c) s with hn|⟨q,t,rfl,hq⟩
  ·rw[split_none hn]at hp
   rw[List.mem_singleton.1 hp]at hb
   exact⟨hb,hn b hb⟩
  ·rw[split_at hq]at hp
   rcases List.mem_cons.1 hp with rfl|hp
   ·exact⟨List.mem_append_left _ hb,hq b hb⟩
   ·match n,hl with
    |0,hl=>simp at hl
    |n+1,hl=>
     obtain⟨h1,h2⟩:=split_sub n t (by simp at hl;omega) p hp b hb
     exact⟨List.mem_append_right _ (List.mem_cons_of_mem _ h1),h2⟩
theorem cutA_sub{s:List UInt8}{c b:UInt8}(h:b∈cutA s c):b∈s∧b≠c:=by
 rcases first_at (c:=c) s with hn|⟨q,t,rfl,hq⟩
 ·rw[(cut_none hn).1]at h
  exact⟨h,hn b h⟩
 ·rw[(cut_at hq).1]at h
  exact⟨List.mem_append_left _ h,hq b h⟩
theorem field_cell{s:List UInt8}(h:OkS s)(h10:∀b∈s,b≠10):∀f∈fieldsV (cutA s 35),CellOk f:=by
 intro f hf
 unfold fieldsV at hf
 split at hf
 ·cases hf
 obtain⟨p,hp,rfl⟩:=List.mem_map.1 hf
 have hA:OkS (cutA s 35):=h.cutA (by decide)
 refine⟨(OkS.pieces (by decide) _ _ (Nat.le_refl _) hA p hp).trim,fun b hb=>?_,trim_trim p⟩
 obtain⟨h1,h2⟩:=split_sub _ _ (Nat.le_refl _) p hp b (trim_sub hb)
 obtain⟨h3,h4⟩:=cutA_sub h1
 exact⟨h10 b h3,h2,h4⟩
def LineOk(l:LnD):Prop:=l.2.1=1→∀f∈l.2.2.2.1,CellOk f
theorem parts_lineOk{s:List UInt8}{no:Int}(h:scanE s=0)(h10:∀b∈s,b≠10):LineOk (partsV no s):=by
 unfold partsV
 split
 ·intro h;exact absurd h (by show¬(2:Int)=1;decide)
 split
 ·intro _
  exact field_cell (scan_okS h) h10
 split
 ·intro h;exact absurd h (by show¬(3:Int)=1;decide)
 ·intro h;exact absurd h (by show¬(0:Int)=1;decide)
theorem partsL_ok:∀(L:List (List UInt8)) (no:Nat),(∀s∈L,scanE s=0)→(∀s∈L,∀b∈s,b≠10)→∀l∈partsL no L,LineOk l
 |[],_,_,_,_,h=>by cases h
 |s::L,no,h1,h2,l,hl=>by
  rw[partsL]at hl
  rcases List.mem_cons.1 hl with rfl|hl
  ·exact parts_lineOk (h1 s (List.mem_cons_self ..)) (h2 s (List.mem_cons_self ..))
  ·exact partsL_ok L (no+1) (fun x hx=>h1 x (List.mem_cons_of_mem _ hx)) (fun x hx=>h2 x (List.mem_cons_of_mem _ hx)) l hl
end Go.Proofs.YtcbmonndkjihkaaGreatDoor.Sx
namespace Go.Proofs.YtcbmonndkjihkaaGreatDoor.Sx
attribute [local irreducible] OkQ Ok
set_option linter.unusedSimpArgs false
set_option linter.unusedVariables false
set_option maxRecDepth 8000
theorem made_range(s:List UInt8)(h:madeOk s=true):0≤madeV s∧madeV s≤1114111:=by
 unfold madeV
 split
 ·exact⟨Int.le_refl _,by decide⟩
 split
 ·exact⟨Int.le_refl _,by decide⟩
 ·rename_i h1 _
  unfold madeOk at h
  rw[Bool.or_eq_true,decide_eq_true_eq]at h
  rcases h with h|h
  ·exact absurd h h1
  ·rw[Bool.and_eq_true,List.all_eq_true]at h
   obtain⟨h2,h3⟩:=h
   cases hq:madeL s with
   |nil=>rw[hq]at h2;simp at h2
   |cons x l=>
    have:=of_decide_eq_true (h3 x (by rw[hq];exact List.mem_cons_self ..))
    exact hex_range this
theorem rowE_all{l:LnD}(h:rowE l=0):l.2.1=1∧l.2.2.2.1.length=15∧hexE (fld l 0)=0∧(1≤cntV (fld l 1)∧cntV (fld l 1)≤256)∧catOk (fld l 2)=true∧0≤combV (fld l 3)∧clsOf (fld l 4)≠0∧madeOk (fld l 5)=true:=by
 unfold rowE at h
 by_cases a1:l.2.1=2
 ·rw[if_pos a1]at h;cases h
 rw[if_neg a1]at h
 by_cases a2:l.2.1≠1∨l.2.2.2.1.length≠15
 ·rw[if_pos a2]at h;cases h
 rw[if_neg a2]at h
 by_cases a3:hexE (fld l 0)≠0
 ·rw[if_pos a3]at h;cases h
 rw[if_neg a3]at h
 by_cases a4:cntV (fld l 1)<1∨256<cntV (fld l 1)
 ·rw[if_pos a4]at h;cases h
 rw[if_neg a4]at h
 by_cases a5:catOk (fld l 2)=false
 ·rw[if_pos a5]at h;cases h
 rw[if_neg a5]at h
 by_cases a6:combV (fld l 3)<0
 ·rw[if_pos a6]at h;cases h
 rw[if_neg a6]at h
 by_cases a7:clsOf (fld l 4)=0
 ·rw[if_pos a7]at h;cases h
 rw[if_neg a7]at h
 by_cases a8:madeOk (fld l 5)=false
 ·rw[if_pos a8]at h;cases h
 refine⟨Decidable.not_not.1 fun q=>a2 (.inl q),Decidable.not_not.1 fun q=>a2 (.inr q),Decidable.not_not.1 a3,⟨?_,?_⟩,by simpa using a5,by omega,a7,by simpa using a8⟩
 ·exact Nat.le_of_not_lt fun q=>a4 (.inl q)
 ·exact Nat.le_of_not_lt fun q=>a4 (.inr q)
theorem fld_cell{l:LnD}(h:rowE l=0)(ho:LineOk l){k:Nat}(hk:k<15):CellOk (fld l k):=by
 obtain⟨h1,h2,_⟩:=rowE_all h
 unfold fld
 rw[List.getD_eq_getElem?_getD,List.getElem?_eq_getElem (by omega)]
 exact ho h1 _ (List.getElem_mem (by omega))
theorem good_of{l:LnD}(h:rowE l=0)(ho:LineOk l){r:RowD}(hr:r.2.2.2.2=(rowR l).2.2.2.2):GoodR r (fld l 1) (hexV (fld l 0)):=by
 obtain⟨_,_,h3,h4,h5,h6,h7,h8⟩:=rowE_all h
 have e1:r.2.2.2.2.1=fld l 2:=congrArg (fun y=>y.1) hr
 have e2:r.2.2.2.2.2.1=combV (fld l 3):=congrArg (fun y=>y.2.1) hr
 have e3:r.2.2.2.2.2.2.1=clsOf (fld l 4):=congrArg (fun y=>y.2.2.1) hr
 have e4:r.2.2.2.2.2.2.2.1=madeV (fld l 5):=congrArg (fun y=>y.2.2.2.1) hr
 exact⟨hex_range h3,fld_cell h ho (by omega),h4,by rw[e1];exact h5,⟨fld l 3,fld_cell h ho (by omega),e2.symm,h6⟩,⟨fld l 4,fld_cell h ho (by omega),e3.symm,h7⟩,by rw[e4];exact made_range _ h8⟩
end Go.Proofs.YtcbmonndkjihkaaGreatDoor.Sx
namespace Go.Proofs.YtcbmonndkjihkaaGreatDoor.Sx
attribute [local irreducible] OkQ Ok
set_option linter.unusedSimpArgs false
set_option linter.unusedVariables false
set_option maxRecDepth 8000
theorem half_inv{s p:List UInt8}(hp:p≠[])(h:halfOf s p=true):s=[60]++plainOf s p++p∧plainOf s p≠[]:=by
 cases s with
 |nil=>unfold halfOf at h;simp at h
 |cons c t=>
  have h0:c=60:=by
   unfold halfOf at h
   rw[Bool.and_eq_true,decide_eq_true_eq]at h
   exact h.1
  subst h0
  rw[half_cons _ _ hp,Bool.and_eq_true,Bool.not_eq_true',decide_eq_false_iff_not]at h
  obtain⟨h1,h2⟩:=h
  rw[Lib.trimSuffix,if_pos h1]at h2
  obtain⟨u,rfl⟩:=List.isSuffixOf_iff_suffix.1 h1
  have e:plainOf (60::(u++p)) p=u:=by unfold plainOf;simp
  rw[e]
  refine⟨by simp,fun q=>h2 ?_⟩
  rw[q]
  simp
theorem half_first{s:List UInt8}(h:(halfV s).2.1=true):s=[60]++(halfV s).1++fstS∧(halfV s).1≠[]:=by
 unfold halfV at h ⊢
 by_cases h1:halfOf s fstS=true
 ·rw[if_pos h1]
  exact half_inv (by decide) h1
 ·rw[if_neg h1]at h
  split at h<;>cases h
theorem half_last{s:List UInt8}(h:(halfV s).2.2=true):s=[60]++(halfV s).1++lstS∧(halfV s).1≠[]:=by
 unfold halfV at h ⊢
 by_cases h1:halfOf s fstS=true
 ·rw[if_pos h1]at h
  cases h
 ·rw[if_neg h1]at h ⊢
  by_cases h2:halfOf s lstS=true
  ·rw[if_pos h2]
   exact half_inv (by decide) h2
  ·rw[if_neg h2]at h
   cases h
def wGood:Option WtD→Prop
 |none=>True
 |some w=>∃l,rowE l=0∧LineOk l∧(halfV (fld l 1)).2.1=true∧w=(rowR l,l.2.2.2.1,(halfV (fld l 1)).1)
theorem fold_right:∀(L:List LnD) (out:List RowD) (w:Option WtD),(∀l∈L,LineOk l)→(∀r∈out,rightB r=true)→wGood w→∀r∈(rdFold L out w).2.2,rightB r=true
 |[],out,none,_,ho,_=>by rw[rdFold];exact ho
 |[],out,some w,_,_,_=>by rw[rdFold];intro r h;cases h
 |l::L,out,w,hL,ho,hw=>by
  have hl:=hL l (List.mem_cons_self ..)
  have hL':∀l∈L,LineOk l:=fun x hx=>hL x (List.mem_cons_of_mem _ hx)
  rw[rdFold]
  by_cases h1:skipL l=true
  ·rw[if_pos h1];exact fold_right L out w hL' ho hw
  rw[if_neg h1]
  by_cases h2:stepE out w l≠0
  ·rw[if_pos h2];intro r h;cases h
  rw[if_neg h2]
  have h2:stepE out w l=0:=Decidable.not_not.1 h2
  have hr:rowE l=0:=by
   unfold stepE at h2
   split at h2
   ·exact h2
   ·rename_i h
    exact Decidable.not_not.1 h
  match w,hw with
  |none,_=>
   have hj:(if(halfV (fld l 1)).2.2=true then(61:Int)else if hexV (fld l 0)≤lastR out then 62 else 0)=0:=by
    unfold stepE at h2
    rw[if_neg (by rw[hr];simp)]at h2
    exact h2
   by_cases h5:(halfV (fld l 1)).2.2=true
   ·rw[if_pos h5]at hj;cases hj
   by_cases h3:(halfV (fld l 1)).2.1=true
   ·have e1:stepO out none l=out:=if_pos h3
    have e2:stepW none l=some (rowR l,l.2.2.2.1,(halfV (fld l 1)).1):=if_pos h3
    rw[e1,e2]
    exact fold_right L out _ hL' ho ⟨l,hr,hl,h3,rfl⟩
   ·have e1:stepO out none l=out++[rowR l]:=if_neg h3
    have e2:stepW none l=none:=if_neg h3
    rw[e1,e2]
    refine fold_right L _ none hL' (fun r h=>?_) trivial
    rcases List.mem_append.1 h with h|h
    ·exact ho r h
    ·rw[List.mem_singleton.1 h]
     have z3:(halfV (fld l 1)).2.1=false:=by simpa using h3
     have z5:(halfV (fld l 1)).2.2=false:=by simpa using h5
     exact good_single rfl (good_of hr hl rfl) ⟨z3,z5⟩
  |some v,⟨l0,k1,k2,k3,k4⟩=>
   subst k4
   have hj:joinE (rowR l0,l0.2.2.2.1,(halfV (fld l0 1)).1) l (rowR l)=0:=by
    unfold stepE at h2
    rw[if_neg (by rw[hr];simp)]at h2
    exact h2
   unfold joinE at hj
   split at hj
   ·cases hj
   rename_i c1
   split at hj
   ·cases hj
   rename_i c2
   split at hj
   ·cases hj
   rename_i c3
   have d1:(halfV (fld l 1)).2.2=true:=by
    cases q:(halfV (fld l 1)).2.2
    ·exact absurd (.inl q) c1
    ·rfl
   have d2:(halfV (fld l 1)).1=(halfV (fld l0 1)).1:=Decidable.not_not.1 fun q=>c1 (.inr q)
   have d3:∀k,2≤k→k<15→fld l k=fld l0 k:=fun k a b=>by
    have c3:pairB l.2.2.2.1 l0.2.2.2.1=true:=by simpa using c3
    unfold pairB at c3
    rw[List.all_eq_true]at c3
    have:=c3 k (List.mem_range.2 b)
    rw[Bool.or_eq_true,decide_eq_true_eq,decide_eq_true_eq]at this
    exact this.resolve_left (by omega)
   obtain⟨f1,f2⟩:=half_first k3
   obtain⟨g1,g2⟩:=half_last d1
   have hs:(rowR l0).2.2.2.2=(rowR l).2.2.2.2:=by
    show(fld l0 2,combV (fld l0 3),clsOf (fld l0 4),madeV (fld l0 5),decide (fld l0 9=[89]),())=(fld l 2,combV (fld l 3),clsOf (fld l 4),madeV (fld l 5),decide (fld l 9=[89]),())
    rw[d3 2 (by omega) (by omega),d3 3 (by omega) (by omega),d3 4 (by omega) (by omega),d3 5 (by omega) (by omega),d3 9 (by omega) (by omega)]
   have e1:stepO out (some (rowR l0,l0.2.2.2.1,(halfV (fld l0 1)).1)) l=out++[joinR (rowR l0,l0.2.2.2.1,(halfV (fld l0 1)).1) (rowR l)]:=rfl
   have e2:stepW (some (rowR l0,l0.2.2.2.1,(halfV (fld l0 1)).1)) l=none:=rfl
   rw[e1,e2]
   refine fold_right L _ none hL' (fun r h=>?_) trivial
   rcases List.mem_append.1 h with h|h
   ·exact ho r h
   ·rw[List.mem_singleton.1 h]
    have q1:=good_of (r:=joinR (rowR l0,l0.2.2.2.1,(halfV (fld l0 1)).1) (rowR l)) k1 k2 rfl
    have q2:=good_of (r:=joinR (rowR l0,l0.2.2.2.1,(halfV (fld l0 1)).1) (rowR l)) hr hl hs
    refine good_pair ?_ ?_ ?_ ?_
    ·show hexV (fld l0 0)<hexV (fld l 0)
     have c2:¬hexV (fld l 0)≤hexV (fld l0 0):=c2
     omega
    ·exact g2
    ·show GoodR _ ([60]++(halfV (fld l 1)).1++fstS) (hexV (fld l0 0))
     rw[d2,←f1]
     exact q1
    ·show GoodR _ ([60]++(halfV (fld l 1)).1++lstS) (hexV (fld l 0))
     rw[←g1]
     exact q2
theorem rows_right(t:List UInt8):∀r∈(rowsV t).2.2,rightB r=true:=by
 rw[rowsV_eq]
 unfold rowsOf
 split
 ·intro r h;cases h
 ·rename_i h
  have hz:(scL 1 (lnS (t.drop (bomN t))) []).1=0:=Decidable.not_not.1 h
  have hs:=scL_zero _ _ _ hz
  rw[scL_good _ 1 [] hs]
  exact fold_right _ [] none (partsL_ok _ 1 hs (lnS_no10 _ _ (Nat.le_refl _))) (fun r h=>by cases h) trivial
theorem up_chk:∀(l:List RowD) (b:Int) (p:Option Int),upB b l→(∀r∈l,rightB r=true)→(∀c,p=some c→c≤b)→chkR p l=0
 |[],_,_,_,_,_=>rfl
 |r::l,b,p,hu,hr,hp=>by
  rw[chkR,if_neg (by rw[hr r (List.mem_cons_self ..)];simp),if_neg]
  ·exact up_chk l _ _ hu.2.2.2 (fun x hx=>hr x (List.mem_cons_of_mem _ hx)) fun c hc=>by cases hc;exact Int.le_refl _
  ·rintro⟨c,h1,h2⟩
   have:=hp c h1
   have:=hu.1
   omega
theorem rows_check(t:List UInt8):chkR none (rowsV t).2.2=0:=up_chk _ (-1) none (rows_up t) (rows_right t) fun c h=>by cases h
end Go.Proofs.YtcbmonndkjihkaaGreatDoor.Sx
namespace Go.Proofs.YtcbmonndkjihkaaGreatDoor.Sx
attribute [local irreducible] OkQ Ok
set_option linter.unusedSimpArgs false
set_option linter.unusedVariables false
set_option maxRecDepth 8000
theorem okC_len:∀ {cs:List (List UInt8)},(∀c∈cs,OkC c)→cs.flatten.length≤4*cs.length
 |[],_=>by simp
 |c::cs,h=>by
  obtain⟨r,hr,_⟩:=(h c (List.mem_cons_self ..)).dec
  have h1:=dec_w4 (c++[]) 0
  rw[hr]at h1
  have h1:c.length≤4:=h1
  have h2:=okC_len (cs:=cs) fun x hx=>h x (List.mem_cons_of_mem _ hx)
  rw[List.flatten_cons,List.length_append,List.length_cons]
  omega
theorem name_short{s:List UInt8}(h:OkS s)(hc:cntV s≤256):s.length≤1024:=by
 obtain⟨cs,rfl,h1,h2⟩:=h.cnt
 have:=okC_len h1
 omega
def shortR(r:RowD):Prop:=r.2.2.2.1.length≤1024∧r.2.2.2.2.1.length=2∧0≤r.2.2.2.2.2.1∧r.2.2.2.2.2.1≤254
theorem short_of{l:LnD}(h:rowE l=0)(ho:LineOk l):(fld l 1).length≤1024∧(fld l 2).length=2∧0≤combV (fld l 3)∧combV (fld l 3)≤254:=by
 obtain⟨_,_,_,h4,h5,h6,_⟩:=rowE_all h
 exact⟨name_short (fld_cell h ho (by omega)).ok h4.2,((cat_iff _).1 h5).1,h6,(comb_back h6).1⟩
def wShort:Option WtD→Prop
 |none=>True
 |some w=>w.1.2.2.2.2.1.length=2∧0≤w.1.2.2.2.2.2.1∧w.1.2.2.2.2.2.1≤254
theorem fold_short:∀(L:List LnD) (out:List RowD) (w:Option WtD),(∀l∈L,LineOk l)→(∀r∈out,shortR r)→wShort w→∀r∈(rdFold L out w).2.2,shortR r
 |[],out,none,_,ho,_=>by rw[rdFold];exact ho
 |[],out,some w,_,_,_=>by rw[rdFold];intro r h;cases h
 |l::L,out,w,hL,ho,hw=>by
  have hl:=hL l (List.mem_cons_self ..)
  have hL':∀l∈L,LineOk l:=fun x hx=>hL x (List.mem_cons_of_mem _ hx)
  rw[rdFold]
  by_cases h1:skipL l=true
  ·rw[if_pos h1];exact fold_short L out w hL' ho hw
  rw[if_neg h1]
  by_cases h2:stepE out w l≠0
  ·rw[if_pos h2];intro r h;cases h
  rw[if_neg h2]
  have h2:stepE out w l=0:=Decidable.not_not.1 h2
  have hr:rowE l=0:=by
   unfold stepE at h2
   split at h2
   ·exact h2
   ·rename_i h
    exact Decidable.not_not.1 h
  obtain⟨s1,s2⟩:=short_of hr hl
  match w,hw with
  |none,_=>
   by_cases h3:(halfV (fld l 1)).2.1=true
   ·have e1:stepO out none l=out:=if_pos h3
    have e2:stepW none l=some (rowR l,l.2.2.2.1,(halfV (fld l 1)).1):=if_pos h3
    rw[e1,e2]
    exact fold_short L out _ hL' ho s2
   ·have e1:stepO out none l=out++[rowR l]:=if_neg h3
    have e2:stepW none l=none:=if_neg h3
    rw[e1,e2]
    refine fold_short L _ none hL' (fun r h=>?_) trivial
    rcases List.mem_append.1 h with h|h
    ·exact ho r h
    ·rw[List.mem_singleton.1 h]
     exact⟨s1,s2⟩
  |some v,hv=>
   have hj:joinE v l (rowR l)=0:=by
    unfold stepE at h2
    rw[if_neg (by rw[hr];simp)]at h2
    exact h2
   have d1:(halfV (fld l 1)).2.2=true:=by
    cases q:(halfV (fld l 1)).2.2
    ·unfold joinE at hj
     rw[if_pos (.inl q)]at hj
     cases hj
    ·rfl
   obtain⟨g1,_⟩:=half_last d1
   have g3:(halfV (fld l 1)).1.length≤1024:=by
    have:=congrArg List.length g1
    rw[List.length_append,List.length_append]at this
    omega
   have e1:stepO out (some v) l=out++[joinR v (rowR l)]:=rfl
   have e2:stepW (some v) l=none:=rfl
   rw[e1,e2]
   refine fold_short L _ none hL' (fun r h=>?_) trivial
   rcases List.mem_append.1 h with h|h
   ·exact ho r h
   ·rw[List.mem_singleton.1 h]
    exact⟨g3,hv⟩
theorem rows_short(t:List UInt8):∀r∈(rowsV t).2.2,shortR r:=by
 rw[rowsV_eq]
 unfold rowsOf
 split
 ·intro r h;cases h
 ·rename_i h
  have hz:(scL 1 (lnS (t.drop (bomN t))) []).1=0:=Decidable.not_not.1 h
  have hs:=scL_zero _ _ _ hz
  rw[scL_good _ 1 [] hs]
  exact fold_short _ [] none (partsL_ok _ 1 hs (lnS_no10 _ _ (Nat.le_refl _))) (fun r h=>by cases h) trivial
theorem short_small{r:RowD}(h:shortR r):smallR r:=by
 obtain⟨h1,h2,_,_⟩:=h
 exact⟨by omega,by omega⟩
theorem short_one{r:RowD}(h:shortR r):(oneV r).length≤2500:=by
 obtain⟨h1,h2,h3,h4⟩:=h
 have hc:IntKind.u8.has r.2.2.2.2.2.1:=by
  have:0≤r.2.2.2.2.2.1∧r.2.2.2.2.2.1≤255:=⟨h3,by omega⟩
  simpa[IntKind.has,IntKind.min,IntKind.max,IntKind.signed,IntKind.bits]using this
 unfold oneV
 split
 ·have:=line_short (r:=r) (name:=r.2.2.2.1) (x:=r.2.1) hc
  omega
 ·have h3:=line_short (r:=r) (name:=[60]++r.2.2.2.1++fstS) (x:=r.2.1) hc
  have h4:=line_short (r:=r) (name:=[60]++r.2.2.2.1++lstS) (x:=r.2.2.1) hc
  have h5:([60]++r.2.2.2.1++fstS).length=r.2.2.2.1.length+9:=by simp[fstS]
  have h6:([60]++r.2.2.2.1++lstS).length=r.2.2.2.1.length+8:=by simp[lstS]
  rw[List.length_append]
  omega
theorem short_flat:∀ {l:List RowD},(∀r∈l,shortR r)→((l.map oneV).flatten).length≤2500*l.length
 |[],_=>by simp
 |r::l,hw=>by
  have h1:=short_one (hw r (List.mem_cons_self ..))
  have h2:=short_flat (l:=l) (fun x hx=>hw x (List.mem_cons_of_mem _ hx))
  rw[List.map_cons,List.flatten_cons,List.length_append,List.length_cons]
  omega
end Go.Proofs.YtcbmonndkjihkaaGreatDoor.Sx
namespace Go.Proofs.YtcbmonndkjihkaaGreatDoor.Sx
attribute [local irreducible] OkQ Ok
set_option linter.unusedSimpArgs false
set_option linter.unusedVariables false
set_option maxRecDepth 8000
theorem rd_count:∀(L:List LnD) (out:List RowD) (w:Option WtD),(rdFold L out w).2.2.length≤out.length+L.length
 |[],out,none=>by rw[rdFold];simp
 |[],out,some w=>by rw[rdFold];simp
 |l::L,out,w=>by
  rw[rdFold]
  split
  ·have:=rd_count L out w
   rw[List.length_cons]
   omega
  ·split
   ·simp
   ·have:=rd_count L (stepO out w l) (stepW w l)
    have h2:(stepO out w l).length≤out.length+1:=by
     unfold stepO
     split
     ·simp
     ·split
      ·omega
      ·simp
    rw[List.length_cons]
    omega
theorem rows_count(t:List UInt8):(rowsV t).2.2.length≤t.length+1:=by
 unfold rowsV
 split
 ·simp
 ·have h1:=rd_count (linesV t).2.2 [] none
  have h2:=lines_count t
  simp at h1
  omega
end Go.Proofs.YtcbmonndkjihkaaGreatDoor.Sx
namespace Go.Proofs.YtcbmonndkjihkaaGreatDoor.Sx
attribute [local irreducible] OkQ Ok
set_option linter.unusedSimpArgs false
set_option linter.unusedVariables false
theorem kTx0:∀c∈[rowsPrint,rowsCheck,sameBut,awake06],c.Ok Tryz.prog:=(cons_ok rowsPrint_ok (cons_ok rowsCheck_ok (cons_ok sameBut_ok (cons_ok awake06_ok nil_ok))))
theorem kTx1:∀c∈[rowRead,rowsPrint,rowsCheck,sameBut,awake06],c.Ok Tryz.prog:=(cons_ok rowRead_ok (cons_ok rowsPrint_ok (cons_ok rowsCheck_ok (cons_ok sameBut_ok (cons_ok awake06_ok nil_ok)))))
open Nat renaming reduceEqDiff→Z0,reduceBEq→Z1,reduceAdd→Z2,reduceSub→Z3,reduceMul→Z4,reduceLeDiff→Z5
open Int renaming reduceEq→Z6,reduceLE→Z7,reduceLT→Z8,reduceNeg→Z9,reduceToNat→ZA,reduceAdd→ZB,reduceSub→ZC,reduceMul→ZD
set_option maxRecDepth 8000
attribute [local irreducible] smallR
noncomputable def lawRowsAgain:Con:=⟨9,[(false,.str)],[(false,.bool)],fun x=>(tyL [(false,.str)]).small x∧(tyL [(false,.str)]).bulk x≤1048576,fun _=>(true,()),false⟩
set_option maxHeartbeats 2000000 in
theorem lawRowsAgain_ok:lawRowsAgain.Ok Tryz.prog:=by
 refine con_q Tryz.func9 rfl (by decide) (fun x hx hp=>go0 kTx0 0 ?_) (by decide)
 obtain⟨(t:List UInt8),⟨⟩⟩:=x
 have hb:=hp.2
 simp only[tyL,Ty.bulk]at hb
 have hz:t.length≤1048576:=by omega
 clear hx hp hb
 have hcnt:=rows_count t
 by_cases hE:(rowsV t).1=0
 case neg=>
  have z0:decide (((0:Nat):Int)=0)=true:=by decide
  refine go0 kTx0 30 ?_
  simp(maxSteps:=4000000)only[go_sem,reduceIte,reduceCtorEq,Z0,Z1,Z2,Z3,Z4,Z5,Z6,Z7,Z8,Z9,ZA,ZB,ZC,ZD,Tryz.f9,lawRowsAgain,oneN,rowsPrint,rowsCheck,sameBut,awake06]
  (repeat' first|apply And.intro|intro _)
  all_goals try first|contradiction|omega
  refine OkQ.xcall rowReadX_ok ([120],t,()) rfl (.inl rfl) rfl (by trivial) rfl ⟨by show t.length≤_;omega,hE⟩ ?_
  refine go0 kTx0 30 ?_
  simp(maxSteps:=4000000)only[go_sem,reduceIte,reduceCtorEq,Z0,Z1,Z2,Z3,Z4,Z5,Z6,Z7,Z8,Z9,ZA,ZB,ZC,ZD,rowReadX,oneN,z0,rowsPrint,rowsCheck,sameBut,awake06]
  (repeat' first|apply And.intro|intro _)
  all_goals first|contradiction|omega|rfl|trivial|fail
 have hsh:=rows_short t
 have hchk:=rows_check t
 have hfl:=short_flat hsh
 have hsm:∀r∈(rowsV t).2.2,smallR r:=fun r hr=>short_small (hsh r hr)
 obtain⟨h1,h2⟩:=rows_back hchk
 obtain⟨L,hLd⟩:∃L,L=(rowsV t).2.2:=⟨_,rfl⟩
 rw[←hLd]at hcnt hsh hchk hfl hsm h1 h2
 have hv:printV L=(L.map oneV).flatten:=if_pos hchk
 obtain⟨u,hu⟩:∃u,u=(L.map oneV).flatten:=⟨_,rfl⟩
 rw[←hu]at hv h1 h2 hfl
 have hul:u.length≤4000000000:=by omega
 have hfl2:((L.map oneV).flatten).length≤140737488355328:=by rw[←hu];omega
 clear hsh hfl
 have d1:decide ((0:Int)=0)=true:=by decide
 have d2:decide ((rowsV u).2.2.map noLn=L.map noLn)=true:=decide_eq_true h2
 refine go0 kTx1 100 ?_
 simp(maxSteps:=4000000)only[go_sem,reduceIte,reduceCtorEq,Z0,Z1,Z2,Z3,Z4,Z5,Z6,Z7,Z8,Z9,ZA,ZB,ZC,ZD,Tryz.f9,lawRowsAgain,←hLd,hchk,hv,d1,d2,oneN,rowRead,rowsPrint,rowsCheck,sameBut,awake06]
 (repeat' first|apply And.intro|intro _)
 all_goals first|contradiction|omega|exact hsm _ ‹_› |exact hsm|exact hfl2|exact h1|exact hE|(show t.length≤_;omega)|exact hul|rfl|trivial|fail
end Go.Proofs.YtcbmonndkjihkaaGreatDoor.Sx
namespace Go.Proofs.YtcbmonndkjihkaaGreatDoor.Sx
set_option linter.unusedSimpArgs false
set_option linter.unusedVariables false
noncomputable section
open Go.ChangeShapes Go.WideShapes Go.ChangeAt Go.RowKit
theorem law_liftedUX{H:Type}{enc:TypeId×Value→H}{C:Checked}{os:Os}{f:FuncId}{fn:Func}{s:ChangeSpec}{conds:List PathCond}{apart fresh handsOn again:Bool}{pl:List (Bool×Ty)}{tb:TypeId}{F:Stop.Interp}
 {laid:List (String×DataW Unit)} (hgw:∀W:World,laidMetH C.prog laid W→W.ShapedOpen C.prog→GW W) (hcon:(lawConU f pl).Ok C.prog)
 (hl:laidOutB C.prog=true) (hvs:s.vars=[]) (hs:∀ds:List (DataW H),ds.length=pl.length→s.fn H ds= {results:=[.lit (.bool true)],args:=ds}) (hp:ParOk C.prog fn.params.toList pl)
 (hr:fn.resultTypes= #[tb]) (htb:C.prog.underlying tb=some .bool)
 (own:ownKnob C.prog.godebug=none) (started:os.Started) (noInit:C.prog.inits.idxOf? f=none) (hfn:C.prog.funcs[f]? =some fn)
 (hsF:((Rows.OpenSpec.upto s).at F)=s)
 (witness:∃(w:World) (tape:Tape) (i:Input),w.os=os∧(w.forCall tape i).Shaped C.prog∧i.vars=[]∧Input.okWide C.prog (w.forCall tape i) .any w.heap.size f i∧
   (Rows.OpenSpec.upto s).preRow enc C.prog fn conds apart laid (w.forCall tape i).memory i.args∧Assume.holds {} C.prog (lone (Frame.enter C.prog f i.args .normal) [] (w.forCall tape i))):
 ReturnsInHanded {} C os f .any ((Rows.OpenSpec.upto s).preRow enc C.prog fn conds apart laid) (((Rows.OpenSpec.upto s).at F).post enc C.prog fn apart fresh handsOn again):=by
 refine returnsInHanded_of_row own started noInit hfn witness ?_
 intro W base args ds gs before hval hW _ hk hsz hL hsh _
 rw[hsF]
 have hW:DataW.Whole enc C.prog fn.params.toList s.vars apart W args.toList ds gs before:=hW
 obtain⟨p,q,hA,hV,hbf,hz,hn⟩:=hW
 have hV':=hV
 rw[hvs]at hV'
 obtain⟨rfl,rfl⟩:=trodVars_none hV'
 obtain⟨x,hx,hxs,hxb⟩:=args_rd (base:=base) pl fn.params.toList args.toList ds p hp hA (fun j t v a b=>hval j t v (by simpa using a) (by simpa using b)) (fun k hk=>by
  have:=List.all_eq_true.1 hsz k
  have hvt:(Rows.OpenSpec.upto s).bare.plain.varTypes C.prog=[]:=by
   simp[DataSpec.varTypes,OpenSpec.bare,ChangeSpec.plain,Rows.OpenSpec.upto,OpenSpec.ofChange,hvs]
  rw[hvt]at this
  simpa using this (by simpa using hk))
 have hwf:=hx.wf
 have hb:Rows.uptoBulkAll (ds++[])≤1048576:=of_decide_eq_true (hk Rows.uptoSmall rfl)
 rw[List.append_nil]at hb
 have:=hcon.calls (fun _=>False) W args.toList x (fun _ h=>h.elim) ⟨hgw W hL hsh,fun _ _ h=>h⟩ hx hwf ⟨hxs,Nat.le_trans hxb hb⟩ 0
 unfold Con.Post at this
 simp only[lawConU]at this
 rw[Array.toArray_toList]at this
 refine this.mono fun e W' hpost=>?_
 obtain⟨v,rfl,hb,_,loc,hv,_⟩:=hpost
 have hv':v= .bool true:=hv
 subst hv'
 exact⟨_,rfl,law_post hl hvs hs hp hr htb ⟨p,[],hA,hV,hbf,hz,hn⟩ hb⟩
end
end Go.Proofs.YtcbmonndkjihkaaGreatDoor.Sx
namespace Go.Proofs.YtcbmonndkjihkaaGreatDoor.Sx
set_option linter.unusedSimpArgs false
set_option linter.unusedVariables false
theorem laidMet_layOver{P:Program}{w0:World}{laid:List (String×DataW Unit)}(args:Array Value)(hf:w0.layFits P laid []=true)(hi:w0.layIfaces P laid (w0.layVars P laid)=true):
 laidMet P laid ((w0.layVars P laid).forCall (fun _ _=>0) ⟨#[],args,[]⟩).memory:=by
 have e1:(laid.filter fun x=>(laid.map (·.1)).contains x.1)=laid:=List.filter_eq_self.2 fun x hx=>List.contains_iff_mem.2 (List.mem_map.2 ⟨x,hx,rfl⟩)
 have e2:(laid.filter fun x=>!(laid.map (·.1)).contains x.1)=[]:=List.filter_eq_nil_iff.2 fun x hx=>by rw[List.contains_iff_mem.2 (List.mem_map.2 ⟨x,hx,rfl⟩)];simp
 have h:laidMet P laid (w0.layVars P laid):=laidMet_layVars (w0:=w0) (laid.map (·.1)) [] (by rw[e1]) (by rw[e1];exact hf) (by rw[e1];exact hi) (by rw[e2];exact LaidIn.none)
 exact h.of_heap (by simp[World.memory,World.forCall,Input.heap])
end Go.Proofs.YtcbmonndkjihkaaGreatDoor.Sx
namespace Go.Proofs.YtcbmonndkjihkaaGreatDoor.Sx
attribute [local irreducible] OkQ Ok
set_option linter.unusedSimpArgs false
set_option linter.unusedVariables false
open Go.RowKit
def laidL:List (String×DataW Unit):=[("math/bits.deBruijn32tab",Rows.laid_math_bits_deBruijn32tab),("math/bits.deBruijn64tab",Rows.laid_math_bits_deBruijn64tab),("internal/strconv.uint64pow10",Rows.laid_internal_strconv_uint64pow10),("unicode/utf8.acceptRanges",Rows.laid_unicode_utf8_acceptRanges),("errors.errorType",Rows.laid_errors_errorType),("strconv.ErrRange",Rows.laid_strconv_ErrRange),("strconv.ErrSyntax",Rows.laid_strconv_ErrSyntax),("unicode/utf8.first",Rows.laid_unicode_utf8_first)]
def laidP:List (String×DataW Unit):=[("math/bits.deBruijn32tab",Rows.laid_math_bits_deBruijn32tab),("math/bits.deBruijn64tab",Rows.laid_math_bits_deBruijn64tab),("internal/strconv.uint64pow10",Rows.laid_internal_strconv_uint64pow10),("unicode/utf8.acceptRanges",Rows.laid_unicode_utf8_acceptRanges),("strconv.ErrRange",Rows.laid_strconv_ErrRange),("strconv.ErrSyntax",Rows.laid_strconv_ErrSyntax),("unicode/utf8.first",Rows.laid_unicode_utf8_first)]
theorem laid_et:Tryz.prog.globalNamed "errors.errorType" =some 0:=by kernel_rfl
theorem laid_rt:(Tryz.prog.cutTypes.find? (·.1== "internal/reflectlite.rtype")).map (·.2)=some 137:=by kernel_rfl
theorem laid_size:∃n,Tryz.prog.types.size=n∧((List.range n).filter fun t=>Tryz.prog.rowNamed t [101,114,114,111,114])=[39]:=⟨_,rfl,by kernel_rfl⟩
theorem laid_GWet{W:World}(h:laidMetH Tryz.prog laidL W):W.cell? ⟨0,0,none⟩=some (.iface 137 (.agg #[.pointer (some ⟨9,39,none⟩)])):=by
 have h':laidMet Tryz.prog laidP W∧handlesMet Tryz.prog [("errors.errorType",Rows.laid_errors_errorType)] W:=h
 obtain⟨name,u,ty,e1,e2,e3,e4,e5⟩:=h'.2 _ (List.mem_singleton.2 rfl)
 have en:name=[101,114,114,111,114]:=(Option.some.inj e1).symm
 subst en
 obtain rfl:=Option.some.inj (laid_rt.symm.trans e2)
 obtain⟨n,hn,hone⟩:=laid_size
 have hm:ty∈(List.range n).filter fun t=>Tryz.prog.rowNamed t [101,114,114,111,114]:=List.mem_filter.2 ⟨List.mem_range.2 (by rw[←hn];exact e3),e4⟩
 rw[hone]at hm
 obtain rfl:=List.mem_singleton.1 hm
 have hh:typeHandle Tryz.prog 39= .pointer (some ⟨9,39,none⟩):=by kernel_rfl
 rw[hh]at e5
 simpa using World.var?_cell laid_et e5 0
theorem laid_plain{W:World}(h:laidMetH Tryz.prog laidL W):laidMet Tryz.prog laidP W:=(show laidMet Tryz.prog laidP W∧handlesMet Tryz.prog [("errors.errorType",Rows.laid_errors_errorType)] W from h).1
theorem laid_pow:(Rows.laid_internal_strconv_uint64pow10:DataW Unit)=Lib.tabData .u64 Lib.pow10Tab:=by rfl
theorem laid_gn:Tryz.prog.globalNamed "internal/strconv.uint64pow10" =some 4:=by kernel_rfl
theorem laid_GWpow{W:World}(h:laidMet Tryz.prog laidP W):∃T fz,W.heap[4]? =some (.cells (Lib.pow10Tab.map fun z=>Value.int .u64 z).toArray T fz):=by
 have h1:laidMet Tryz.prog (("internal/strconv.uint64pow10",Rows.laid_internal_strconv_uint64pow10)::[("unicode/utf8.acceptRanges",Rows.laid_unicode_utf8_acceptRanges),("strconv.ErrRange",Rows.laid_strconv_ErrRange),("strconv.ErrSyntax",Rows.laid_strconv_ErrSyntax),("unicode/utf8.first",Rows.laid_unicode_utf8_first)]) W:=h.tail.tail
 rw[laid_pow]at h1
 have ht:=Lib.tabIs_of_head (g:=4) laid_gn (t:=235) (by kernel_rfl) (n:=20) (e:=212) (by kernel_rfl) (by kernel_rfl) (by kernel_rfl) (by kernel_rfl) h1
 unfold Lib.TabIs World.var? at ht
 rw[laid_gn]at ht
 simp only[Option.bind_some]at ht
 split at ht
 ·rename_i cs T fz hh
  cases ht
  exact⟨T,fz,hh⟩
 ·cases ht
theorem laid_gnsyn:Tryz.prog.globalNamed "strconv.ErrSyntax" =some 1:=by kernel_rfl
theorem laid_GWsyn{W:World}(h:laidMet Tryz.prog laidP W):∃t u,W.cell? ⟨1,0,none⟩=some (.iface t u):=by
 have h1:laidMet Tryz.prog (("strconv.ErrSyntax",Rows.laid_strconv_ErrSyntax)::[("unicode/utf8.first",Rows.laid_unicode_utf8_first)]) W:=h.tail.tail.tail.tail.tail
 obtain⟨ps,⟨g0,t0,cs0,f0,p0,q0,hg0,ht0,hv0,hd0,_,e0⟩,_,hrows⟩:=h1
 obtain rfl:=Option.some.inj (laid_gnsyn.symm.trans hg0)
 obtain rfl:=Option.some.inj ((show(Tryz.prog.globals[1]?).map (·.type)=some 39 by kernel_rfl).symm.trans ht0)
 obtain⟨l0⟩:=cs0
 obtain⟨_,t,u,rfl,_⟩:=iface_of_trod Tryz.underlying39 hd0
 exact⟨t,u,by simpa using World.var?_cell laid_gnsyn hv0 0⟩
theorem laid_gnrng:Tryz.prog.globalNamed "strconv.ErrRange" =some 2:=by kernel_rfl
theorem laid_GWrng{W:World}(h:laidMet Tryz.prog laidP W):∃t u,W.cell? ⟨2,0,none⟩=some (.iface t u):=by
 have h1:laidMet Tryz.prog (("strconv.ErrRange",Rows.laid_strconv_ErrRange)::[("strconv.ErrSyntax",Rows.laid_strconv_ErrSyntax),("unicode/utf8.first",Rows.laid_unicode_utf8_first)]) W:=h.tail.tail.tail.tail
 obtain⟨ps,⟨g0,t0,cs0,f0,p0,q0,hg0,ht0,hv0,hd0,_,e0⟩,_,hrows⟩:=h1
 obtain rfl:=Option.some.inj (laid_gnrng.symm.trans hg0)
 obtain rfl:=Option.some.inj ((show(Tryz.prog.globals[2]?).map (·.type)=some 39 by kernel_rfl).symm.trans ht0)
 obtain⟨l0⟩:=cs0
 obtain⟨_,t,u,rfl,_⟩:=iface_of_trod Tryz.underlying39 hd0
 exact⟨t,u,by simpa using World.var?_cell laid_gnrng hv0 0⟩
theorem laid_GWmx{W:World}(h:W.ShapedOpen Tryz.prog):∃m,W.cell? ⟨3,0,none⟩=some (.int .i64 m):=
 Go.Proofs.cell_of_shapedOpen_int (t:=3) (zero:= #[.int .i64 0]) h (by decide+kernel) (by kernel_rfl) rfl (by kernel_rfl) (by kernel_rfl) (by kernel_rfl)
theorem laid_GW{W:World}(h0:laidMetH Tryz.prog laidL W)(hs:W.ShapedOpen Tryz.prog):GW W:=
 have hp:=laid_plain h0
 {et:=laid_GWet h0,
  pow:=laid_GWpow hp,
  syn:=laid_GWsyn hp,
  rng:=laid_GWrng hp,
  mx:=laid_GWmx hs}
noncomputable def laidW0(os:Os):World:=
 let w0:=World.holding Tryz.prog os ⟨#[],#[],[]⟩
 {w0 with heap:=w0.heap.modify 0 fun
   | .cells _ t frozen=> .cells #[.iface 137 (.agg #[.pointer (some ⟨9,39,none⟩)])] t frozen
   |o=>o}
noncomputable def laidWorld(os:Os):World:=(laidW0 os).layVars Tryz.prog laidP
theorem laidWorld_os(os:Os):(laidWorld os).os=os:=World.layVars_os _ _ _
set_option maxRecDepth 100000 in
theorem laidWorld_met(os:Os)(args:Array Value):laidMetH Tryz.prog laidL ((laidWorld os).forCall (fun _ _=>0) ⟨#[],args,[]⟩).memory:=
 laidMetH_of_parts (show laidMet Tryz.prog laidP _ from laidMet_layOver args (by kernel_rfl) (by kernel_rfl)) (by kernel_rfl)
end Go.Proofs.YtcbmonndkjihkaaGreatDoor.Sx
namespace Go.Proofs.YtcbmonndkjihkaaGreatDoor.RowsAgain
set_option linter.unusedSimpArgs false
set_option linter.unusedVariables false
open Go.ChangeShapes Go.WideShapes Go.ChangeAt Go.RowKit Go.Proofs.YtcbmonndkjihkaaGreatDoor.Sx
theorem own:ownKnob Tryz.prog.godebug=none:=by kernel_rfl
theorem laidOut:laidOutB Tryz.prog=true:=by kernel_rfl
theorem reads(os:Os){H:Type}(enc:TypeId×Value→H):∃places,DataW.whole enc Tryz.prog ((laidWorld os).forCall (fun _ _=>0) ⟨#[],#[.string ⟨#[]⟩],[]⟩).memory Tryz.f9.params.toList Rows.rowsAgainSpec.vars false #[.string ⟨#[]⟩].toList 8=some ([.lit (.string [])],[],places):=
 ⟨[],by kernel_rfl⟩
set_option maxRecDepth 100000 in
theorem lifted(os:Os)(started:os.Started)(H:Type)(enc:TypeId×Value→H)(F:Stop.Interp):
 ReturnsInHanded {} Tryz.checked os 9 .any ((Rows.OpenSpec.upto Rows.rowsAgainSpec).preRow enc Tryz.prog Tryz.f9 Rows.rowsAgainUptoRow.domain false Rows.rowsAgainUptoRow.laid) (((Rows.OpenSpec.upto Rows.rowsAgainSpec).at F).post enc Tryz.prog Tryz.f9 false true false false):=by
 obtain⟨places,hx⟩:=reads os enc
 exact law_liftedUX (C:=Tryz.checked) (pl:=[(false,.str)]) (tb:=4) (laid:=Rows.rowsAgainUptoRow.laid) (fun _ h hs=>laid_GW h hs) lawRowsAgain_ok laidOut rfl (fun ds h=>match ds,h with|[_],_=>rfl)
  ⟨⟨by kernel_rfl,by kernel_rfl,by kernel_rfl,by kernel_rfl,by kernel_rfl⟩,trivial⟩ (by kernel_rfl) (by kernel_rfl) own started (by kernel_rfl) Tryz.func9 rfl
  (witness_row_at (enc:=enc) (C:=Tryz.checked) false (laidWorld os) #[.string ⟨#[]⟩] (laidWorld_os os) (by kernel_rfl) (by kernel_rfl) (by kernel_rfl)
    (OpenSpec.preRow_of_cond 8 hx (by kernel_rfl) (fun k hk=>by cases hk;kernel_rfl) (by kernel_rfl) (laidWorld_met os _)))
theorem rowHolds:Rows.RowsAgainUptoSaid:=
 OpenClaim.holds_of_cond 9 Tryz.f9 rfl rfl rfl rfl rfl rfl rfl ⟨rfl,rfl,rfl,rfl,rfl⟩ rfl rfl rfl rfl rfl (by kernel_rfl) Tryz.func9 (by kernel_rfl)
  (of_decide_eq_true (by kernel_rfl)) (by unfold Func.isWrapper;first|(rw[if_pos (by decide+kernel)];kernel_rfl)|(rw[if_neg (by decide+kernel)];exact⟨rfl,rfl⟩))
  (fun os started H enc _ F=>by rw[OpenClaim.pre_eq_preRow];exact lifted os started H enc F)
theorem proved:Rows.RowsAgainUptoCardSaid:=
 Claim7.holds_tied_plain_at .later [] [.data,.data,.data,.data,.handle,.sentinel,.sentinel,.pinned] true (true,Rows.rowsAgainUptoCard.stood.harness.2) true
  rowHolds (fun _ h=>by cases h) (by kernel_rfl) (fun _ h=>by cases h) rowsAgainUpto_row_tie rfl ⟨rfl,rfl⟩ (by kernel_rfl) rfl
  (fun f fn hf hfn=>by
    obtain rfl:f=9:=Option.some.inj ((show Tryz.prog.funcNamed "furrow/furrowlaw06.RowsAgain" =some 9 by kernel_rfl).symm.trans hf) |>.symm
    obtain rfl:fn=Tryz.f9:=(Option.some.inj (Tryz.func9.symm.trans hfn)).symm
    exact⟨by kernel_rfl,fun j t ht=>by
     have key:∀t∈Tryz.f9.params.toList,Tryz.prog.wantsStandIn t=false:=by decide+kernel
     exact key t (List.mem_of_getElem? (by simpa using ht))⟩)
  (by kernel_rfl)
#print axioms proved
end Go.Proofs.YtcbmonndkjihkaaGreatDoor.RowsAgain
