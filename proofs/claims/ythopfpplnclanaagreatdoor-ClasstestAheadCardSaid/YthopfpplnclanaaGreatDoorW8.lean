/- A part of the proof. -/
import Derived.Test.YthopfpplnclanaaGreatDoorW5
import Derived.Test.YthopfpplnclanaaGreatDoorW2
import Derived.Test.YthopfpplnclanaaGreatDoorW7
import Derived.Test.YthopfpplnclanaaGreatDoorW0
import Derived.Test.YthopfpplnclanaaGreatDoorW1
import Derived.Test.YthopfpplnclanaaGreatDoorW3
import Derived.Test.YthopfpplnclanaaGreatDoorW4
import Derived.Test.YthopfpplnclanaaGreatDoorW6
namespace Go.Proofs.YthopfpplnclanaaGreatDoor.Sx
attribute [local irreducible] OkQ Ok
set_option linter.unusedSimpArgs false
set_option linter.unusedVariables false
open Nat renaming reduceEqDiff→Z0,reduceBEq→Z1,reduceAdd→Z2,reduceSub→Z3,reduceMul→Z4,reduceLeDiff→Z5
open Int renaming reduceEq→Z6,reduceLE→Z7,reduceLT→Z8,reduceNeg→Z9,reduceToNat→ZA,reduceAdd→ZB,reduceSub→ZC,reduceMul→ZD
set_option maxRecDepth 8000
theorem OkQ.loopF3{P:Program}{kp:List Nat}{Q:St→Prop}{α:Type}(lo1 lo2 lo3:Nat)(WF1 WF2 WF3:List Nat)(W:List Nat)(U:α→List (Nat×SV))(H:α→List (Nat×Ob))(Pr:α→Prop)(μ:α→Nat)(x0:α)
 {c:Code} {k:List It} {fr fr1 fr2 fr3:List SV} {hp:List (Nat×Ob)} {nx:Nat} {ps1 ps2 ps3:List Nat} {asg1 body1 asg2 body2 asg3 body3:Code} (_h1:fo hp lo1= .lp 0 fr1 ps1 asg1 body1 none) (_h2:fo hp lo2= .lp 0 fr2 ps2 asg2 body2 none) (_h3:fo hp lo3= .lp 0 fr3 ps3 asg3 body3 none)
 (h0:Pr x0) (h1:SubQ kp ⟨fr,hp,nx⟩ ⟨upds (forget fr W) (U x0),uos hp (H x0++[(lo1,.lp 0 (forget fr1 WF1) ps1 asg1 body1 none),(lo2,.lp 0 (forget fr2 WF2) ps2 asg2 body2 none),(lo3,.lp 0 (forget fr3 WF3) ps3 asg3 body3 none)]),nx⟩)
 (hr:∀x,Pr x→OkQ P kp Q (.c c:: .fin (backK kp Pr μ (μ x) fun y=>⟨upds (forget fr W) (U y),uos hp (H y++[(lo1,.lp 0 (forget fr1 WF1) ps1 asg1 body1 none),(lo2,.lp 0 (forget fr2 WF2) ps2 asg2 body2 none),(lo3,.lp 0 (forget fr3 WF3) ps3 asg3 body3 none)]),nx⟩)::k) ⟨upds (forget fr W) (U x),uos hp (H x++[(lo1,.lp 0 (forget fr1 WF1) ps1 asg1 body1 none),(lo2,.lp 0 (forget fr2 WF2) ps2 asg2 body2 none),(lo3,.lp 0 (forget fr3 WF3) ps3 asg3 body3 none)]),nx⟩):OkQ P kp Q (.c (.loop c)::k) ⟨fr,hp,nx⟩:=
 OkQ.loopK W U (fun x=>H x++[(lo1,.lp 0 (forget fr1 WF1) ps1 asg1 body1 none),(lo2,.lp 0 (forget fr2 WF2) ps2 asg2 body2 none),(lo3,.lp 0 (forget fr3 WF3) ps3 asg3 body3 none)]) Pr μ x0 h0 h1 hr
theorem pcd_in(t:List UInt8):∀f a,a≤t.length→∀p∈pcsFrom t f a,0≤p.1∧p.1≤p.2.1∧p.2.1≤(t.length:Int)∧p.2.1≤p.2.2.1
 |0,_,_,p,hp=>by simp[pcsFrom]at hp
 |f+1,a,ha,p,hp=>by
  have hlt:=idx_lt (t.drop a) 10
  rw[List.length_drop]at hlt
  rw[pcsFrom]at hp
  split at hp
  ·simp at hp
   subst hp
   dsimp only
   omega
  ·rename_i h
   have hc:crN t a (Lib.indexByte (t.drop a) 10).toNat≤(Lib.indexByte (t.drop a) 10).toNat:=by unfold crN;split<;>omega
   rcases List.mem_cons.1 hp with rfl|hp
   ·dsimp only
    omega
   ·exact pcd_in t f _ (by omega) p hp
theorem mapO_bad{α β:Type}{f:α→Option β}{l r:List α}{a:α}{out:List β}(h:mapO f l=some out)(hb:f a=none):mapO f (l++a::r)=none:=by
 rw[mapO_app,h,mapO,hb]
 rfl
theorem mapO_good{α β:Type}{f:α→Option β}{l:List α}{a:α}{b:β}{out:List β}(h:mapO f l=some out)(hb:f a=some b):mapO f (l++[a])=some (out++[b]):=by
 rw[mapO_one h,hb]
 rfl
theorem clF_none:∀(l:List WrD) (out:List Int),mapO clW (l.map fun w=>w.2.1)=none→(clF l out).2.2=50
 |[],_,h=>by cases h
 |w::l,out,h=>by
  rw[List.map_cons,mapO]at h
  rw[clF]
  by_cases hE:clsE w.2.1=0
  ·rw[if_pos hE]
   refine clF_none l _ ?_
   have hc:clW w.2.1=some (clsV w.2.1):=by unfold clW;rw[if_pos hE]
   rw[hc]at h
   cases hm:mapO clW (l.map fun w=>w.2.1)with
   |none=>rfl
   |some r=>rw[hm]at h;cases h
  ·rw[if_neg hE]
   show clsE w.2.1=50
   unfold clsE at hE ⊢
   split
   ·rfl
   ·rename_i h2
    exact absurd (if_neg h2) hE
theorem clR_some{s:List UInt8}{cl:List Int}(h:clL s=some cl):clR s=(cl,0,0):=by
 have:=clF_app [] (wordsV s) cl [] h
 rw[List.append_nil]at this
 unfold clR
 rw[this]
 rfl
def pcdZ:PcD:=(0,0,0,())
theorem parts_no(no:Int)(s:List UInt8):(partsV no s).1=no:=by
 unfold partsV
 repeat' split
 all_goals rfl
theorem pcd_at{t:List UInt8}{i:Nat}(h:i<(pcsV t).length):(pcsV t).drop i=(pcsV t).getD i pcdZ::(pcsV t).drop (i+1)∧0≤((pcsV t).getD i pcdZ).1∧((pcsV t).getD i pcdZ).1≤((pcsV t).getD i pcdZ).2.1∧((pcsV t).getD i pcdZ).2.1≤(t.length:Int):=by
 have e:(pcsV t).getD i pcdZ=(pcsV t)[i]:=by simp[List.getD_eq_getElem?_getD,h]
 have hm:(pcsV t)[i]∈pcsV t:=List.getElem_mem h
 obtain⟨a,b,c,_⟩:=pcd_in t _ _ (bom_len t) _ hm
 rw[e]
 exact⟨List.drop_eq_getElem_cons h,a,b,c⟩
theorem oneN:Value.nilIface.oneCell'=true:=rfl
theorem oneP:(Value.pointer none).oneCell'=true:=rfl
theorem oneM:(Value.map none).oneCell'=true:=rfl
theorem oneF:Value.nilFunc.oneCell'=true:=rfl
abbrev RdS:=Nat×List CD×StD
abbrev pAt(t:List UInt8)(x:RdS):PcD:=(pcsV t).getD x.1 pcdZ
abbrev lAt(t:List UInt8)(x:RdS):LnD:=partsV ((x.1+1:Nat):Int) (lineOf t (pAt t x))
end Go.Proofs.YthopfpplnclanaaGreatDoor.Sx
namespace Go.Proofs.YthopfpplnclanaaGreatDoor.Sx
attribute [local irreducible] OkQ Ok
set_option linter.unusedSimpArgs false
set_option linter.unusedVariables false
theorem kKs0:∀c∈[refEqLv,refEqOr],c.Ok Tryz.prog:=(cons_ok refEqLv_ok (cons_ok refEqOr_ok nil_ok))
open Nat renaming reduceEqDiff→Z0,reduceBEq→Z1,reduceAdd→Z2,reduceSub→Z3,reduceMul→Z4,reduceLeDiff→Z5
open Int renaming reduceEq→Z6,reduceLE→Z7,reduceLT→Z8,reduceNeg→Z9,reduceToNat→ZA,reduceAdd→ZB,reduceSub→ZC,reduceMul→ZD
set_option maxRecDepth 8000
theorem take_eq_next{α:Type}{d:α}{l m:List α}{i:Nat}(h1:i<l.length)(h2:i<m.length)(ht:l.take i=m.take i)(he:l.getD i d=m.getD i d):l.take (i+1)=m.take (i+1):=by
 simp only[List.getD_eq_getElem?_getD,h1,h2,List.getElem?_eq_getElem,Option.getD_some]at he
 rw[List.take_succ_eq_append_getElem h1,List.take_succ_eq_append_getElem h2,ht,he]
def refSame28:Con:=⟨12,[(true,tC),(true,tC)],[(false,.bool)],fun _=>True,fun x=>(decide (x.1.2=x.2.1.2),()),false⟩
set_option maxHeartbeats 1000000 in
theorem refSame28_ok:refSame28.Ok Tryz.prog:=by
 refine con_q Tryz.func12 rfl (by decide) (fun x hx hp=>go0 kKs0 400 ?_) (by decide)
 obtain⟨⟨(ln:Int),(cl:List Int),(b:Int),(lv:List Int),(od:List Int),⟨⟩⟩,⟨(ln':Int),(cl':List Int),(b':Int),(lv':List Int),(od':List Int),⟨⟩⟩,⟨⟩⟩:=x
 have h1:cl.length*1≤140737488355328:=hx.1.2.1.1
 clear hx hp
 simp(maxSteps:=4000000)only[go_sem,reduceIte,reduceCtorEq,Z0,Z1,Z2,Z3,Z4,Z5,Z6,Z7,Z8,Z9,ZA,ZB,ZC,ZD,Tryz.f12,refSame28,refEqLv,refEqOr]
 (repeat' first|apply And.intro|intro _|(show staB _ _=true;kernel_rfl)|(show dynB _ _=true;kernel_rfl)|(show dynP _ _ _=true;kernel_rfl))
 all_goals try omega
 ·rename_i h
  symm
  refine decide_eq_false fun e=>?_
  simp only[Prod.mk.injEq]at e
  obtain⟨e1,e2,e3,e4,_⟩:=e
  subst e1 e2 e3 e4
  simp at h
 ·rename_i h
  refine OkQ.loop (α:=Nat) [0,1,4,5,6,7,8,9,10,11,12,13,14,15,16,17,18,19,20,21,22,23,24,25,26,27,28,29,30,31,32,33,34,35,36,37,38,39,40,41,42,43,44,45,46,47,48,49,50,51,52,53] (fun i=>[(5,.s (.int .i64 (i:Int)))]) (fun _=>[]) (fun i=>i≤cl.length∧cl.take i=cl'.take i) (fun i=>cl.length - i) 0 ⟨by simp,by simp⟩ ?_ fun i hi=>?_
  ·simp(maxSteps:=4000000)only[go_sem,reduceIte,reduceCtorEq,Z0,Z1,Z2,Z3,Z4,Z5,Z6,Z7,Z8,Z9,ZA,ZB,ZC,ZD,refEqLv,refEqOr]
   all_goals first|rfl|simp|fail
  ·refine go0 kKs0 400 ?_
   simp(maxSteps:=4000000)only[go_sem,reduceIte,reduceCtorEq,Z0,Z1,Z2,Z3,Z4,Z5,Z6,Z7,Z8,Z9,ZA,ZB,ZC,ZD,Tryz.f12,refSame28,refEqLv,refEqOr]
   obtain⟨hi,ht⟩:=hi
   obtain⟨⟨⟨hl,rfl⟩,rfl⟩,rfl⟩:=h
   (repeat' first|apply And.intro|intro _|(show staB _ _=true;kernel_rfl)|(show dynB _ _=true;kernel_rfl)|(show dynP _ _ _=true;kernel_rfl))
   all_goals try omega
   ·rename_i hne
    symm
    refine decide_eq_false fun e=>hne ?_
    simp only[Prod.mk.injEq,and_true]at e
    rw[e]
   ·rename_i he
    exact⟨i+1,⟨by omega,take_eq_next (by omega) (by omega) ht he⟩,by omega,wr_nxt (by omega)⟩
   ·have e:cl=cl':=by
     rwa [List.take_of_length_le (by omega),List.take_of_length_le (by omega)]at ht
    subst e
    simp
end Go.Proofs.YthopfpplnclanaaGreatDoor.Sx
namespace Go.Proofs.YthopfpplnclanaaGreatDoor.Sx
attribute [local irreducible] OkQ Ok
set_option linter.unusedSimpArgs false
set_option linter.unusedVariables false
open Nat renaming reduceEqDiff→Z0,reduceBEq→Z1,reduceAdd→Z2,reduceSub→Z3,reduceMul→Z4,reduceLeDiff→Z5
open Int renaming reduceEq→Z6,reduceLE→Z7,reduceLT→Z8,reduceNeg→Z9,reduceToNat→ZA,reduceAdd→ZB,reduceSub→ZC,reduceMul→ZD
set_option maxRecDepth 8000
def lawTwin:Con:=⟨10,[(true,tC)],[(true,tC)],fun _=>True,fun x=>(x.1,()),false⟩
set_option maxHeartbeats 1000000 in
theorem lawTwin_ok:lawTwin.Ok Tryz.prog:=by
 refine con_q Tryz.func10 rfl (by decide) (fun x hx hp=>go0 nil_ok 400 ?_) (by decide)
 obtain⟨⟨(ln:Int),(cl:List Int),(b:Int),(lv:List Int),(od:List Int),⟨⟩⟩,⟨⟩⟩:=x
 have h1:cl.length*1≤140737488355328:=hx.1.2.1.1
 have h2:lv.length*1≤140737488355328:=hx.1.2.2.2.1.1
 have h3:od.length*8≤140737488355328:=hx.1.2.2.2.2.1.1
 clear hp
 simp(maxSteps:=4000000)only[go_sem,reduceIte,reduceCtorEq,Z0,Z1,Z2,Z3,Z4,Z5,Z6,Z7,Z8,Z9,ZA,ZB,ZC,ZD,Tryz.f10,lawTwin]
 (repeat' first|apply And.intro|intro _)
 all_goals first|omega|exact hx.1.1|exact hx.1.2.1.2|exact hx.1.2.2.1|exact hx.1.2.2.2.1.2|exact hx.1.2.2.2.2.1.2|rfl|fail
def eqCs(l m:List CD):Bool:=decide (l=m)
def lawSame28:Con:=⟨6,[(false,tCs),(false,tCs)],[(false,.bool)],fun _=>True,fun x=>(eqCs x.1 x.2.1,()),false⟩
set_option maxHeartbeats 1000000 in
theorem lawSame28_ok:lawSame28.Ok Tryz.prog:=by
 refine con_q Tryz.func6 rfl (by decide) (fun x hx hp=>go0 (cons_ok refSame28_ok nil_ok) 400 ?_) (by decide)
 obtain⟨(xs:List CD),(ys:List CD),⟨⟩⟩:=x
 have hsz:xs.length*88≤140737488355328:=hx.1.1
 clear hx hp
 simp(maxSteps:=4000000)only[go_sem,reduceIte,reduceCtorEq,Z0,Z1,Z2,Z3,Z4,Z5,Z6,Z7,Z8,Z9,ZA,ZB,ZC,ZD,Tryz.f6,lawSame28,refSame28]
 refine⟨fun h=>?_,fun h=>?_⟩
 ·have:xs≠ys:=fun e=>h (by rw[e])
  simp[eqCs,this]
 ·refine OkQ.loop (α:=Nat) [2,3,4,5,6,7,8,9,10,11,12,13,14,15,16,17,18,19,20,21,22,23,24,25,26,27,28,29,30,31,32,33,34,35,36,37,38,39] (fun i=>[(5,.s (.int .i64 (i:Int)))]) (fun _=>[]) (fun i=>i≤xs.length∧xs.take i=ys.take i) (fun i=>xs.length - i) 0 ⟨by simp,by simp⟩ ?_ fun i hi=>?_
  ·simp(maxSteps:=4000000)only[go_sem,reduceIte,reduceCtorEq,Z0,Z1,Z2,Z3,Z4,Z5,Z6,Z7,Z8,Z9,ZA,ZB,ZC,ZD,refSame28]
   all_goals first|rfl|simp
  ·have cA:xs.getD i (0,[],0,[],[],())=cAt xs i:=rfl
   have cB:ys.getD i (0,[],0,[],[],())=cAt ys i:=rfl
   refine go0 (cons_ok refSame28_ok nil_ok) 400 ?_
   simp(maxSteps:=4000000)only[go_sem,reduceIte,reduceCtorEq,Z0,Z1,Z2,Z3,Z4,Z5,Z6,Z7,Z8,Z9,ZA,ZB,ZC,ZD,Tryz.f6,lawSame28,cA,cB,refSame28]
   have hlen:xs.length=ys.length:=by omega
   obtain⟨hi,ht⟩:=hi
   (repeat' first|apply And.intro|intro _|(show staB _ _=true;kernel_rfl)|(show dynB _ _=true;kernel_rfl)|(show dynP _ _ _=true;kernel_rfl))
   all_goals try omega
   ·rename_i h
    symm
    refine decide_eq_false fun e=>?_
    subst e
    simp at h
   ·rename_i h
    refine⟨i+1,⟨by omega,take_eq_next (d:=cZ) (by omega) (by omega) ht ?_⟩,by omega,wr_nxt (by omega)⟩
    exact Prod.ext h.1 h.2
   ·have e:xs=ys:=by
     rwa [List.take_of_length_le (by omega),List.take_of_length_le (by omega)]at ht
    exact(decide_eq_true e).symm
end Go.Proofs.YthopfpplnclanaaGreatDoor.Sx
namespace Go.Proofs.YthopfpplnclanaaGreatDoor.Sx
set_option linter.unusedSimpArgs false
set_option linter.unusedVariables false
noncomputable section
structure MCon where
 f:FuncId
 al:List (Bool×Ty)
 rs:List (Bool×Ty)
 Z:List (Bool×List S1)
 tp:TypeId
 tb:TypeId
 pre:(tyL al).den→Prop
 F:(tyL al).den→(tyL rs).den
 C:(tyL al).den→List S1
def MCon.R(c:MCon)(x:(tyL c.al).den)(i:Nat):List (Bool×List S1):=resL c.rs (c.F x) i++(false,[.ifp c.tp (i+nslL c.rs) 0])::c.Z
def MCon.O(c:MCon)(x:(tyL c.al).den)(i:Nat):List (Nat×Ob):=resO c.rs (c.F x) i++[(i+nslL c.rs,.box c.tb (c.C x))]
def MEnv(os:List (Nat×Ob))(i n:Nat)(loc:Loc)(S:Nat→Prop)(E:Env):Prop:=
 (∀q,i≤q→q<i+n→E.born q∧E.ob q=fo os q∧E.loc q=loc q)∧
 ∀b,E.owned b→S b∨∃q f,i≤q∧q<i+n∧(fo os q).mut=true∧loc q=some (b,f)
def MCon.Post(c:MCon)(S:Nat→Prop)(x:(tyL c.al).den)(i:Nat)(w:World)(e:Ending)(w':World):Prop:=
 ∃v,∃loc:Loc,e= .returned v∧RowKit.Below w.heap.size w w'∧(tyL c.rs).wf (c.F x)∧
  (∀o o' b f f',fo (c.O x i) o≠ .dead→fo (c.O x i) o'≠ .dead→loc o=some (b,f)→loc o'=some (b,f')→o=o')∧
  (∀o b f,fo (c.O x i) o≠ .dead→loc o=some (b,f)→w.heap.size≤b)∧
  ∀E:Env,MEnv (c.O x i) i (nslL c.rs+1) loc S E→(∀q,i≤q→q<i+(nslL c.rs+1)→ObOk E w' q (fo (c.O x i) q))∧SVok E w' (resV (c.R x i)) v
structure MCon.Ok(P:Program)(c:MCon):Prop where
 enters:∀args w,(callFunc c.f args).run P w= .ok (.enter c.f args) w
 calls:∀(S:Nat→Prop) (w:World) (vs:List Value) (x:(tyL c.al).den),(∀b,S b→b<w.heap.size)→(GW w∧∀b∈GB,¬S b)→ArgsRd S w c.al vs x→(tyL c.al).wf x→c.pre x→
  ∀i,Calls P c.f vs.toArray w (c.Post S x i w)
theorem CompsOk.app{E:Env}{w:World}:∀ {l m:List (Bool×List S1)} {us vs:List Value},CompsOk E w l us→CompsOk E w m vs→CompsOk E w (l++m) (us++vs)
 |[],m,us,vs,r,q=>by
  have:us=[]:=List.eq_nil_of_length_eq_zero r.1
  subst this
  exact q
 |bl::l,m,us,vs,r,q=>by
  obtain⟨u,us',rfl,h1,h2⟩:=r.uncons
  exact .cons h1 (h2.app q)
theorem CompsOk.unapp{E:Env}{w:World}:∀ {l m:List (Bool×List S1)} {vs:List Value},CompsOk E w (l++m) vs→∃us us',vs=us++us'∧CompsOk E w l us∧CompsOk E w m us'
 |[],m,vs,r=>⟨[],vs,rfl,.nil,r⟩
 |bl::l,m,vs,r=>by
  obtain⟨u,us',rfl,h1,h2⟩:=CompsOk.uncons (l:=l++m) r
  obtain⟨us,us2,rfl,h3,h4⟩:=CompsOk.unapp h2
  exact⟨u::us,us2,rfl,.cons h1 h3,h4⟩
theorem kcomps_ok{E E':Env}{w w':World}:∀ {Z:List (Bool×List S1)} {vs:List Value},kcomps Z=true→CompsOk E w Z vs→CompsOk E' w' Z vs
 |[],vs,_,r=>by
  have:vs=[]:=List.eq_nil_of_length_eq_zero r.1
  subst this
  exact .nil
 |(bl,l)::Z,vs,h,r=>by
  simp only[kcomps,Bool.and_eq_true]at h
  obtain⟨u,us,rfl,r1,r2⟩:=r.uncons
  refine .cons ⟨fun hb=>?_,fun hb=>kcells_ok h.1 (r1.2 hb)⟩ (kcomps_ok h.2 r2)
  obtain⟨us',e,q⟩:=r1.1 hb
  exact⟨us',e,kcells_ok h.1 q⟩
def RetM(P:Program)(results:List ResultVar)(c:MCon)(x:(tyL c.al).den):St→Prop:=fun st=>
 match retV P (fo st.hp) st.fr results with
 |some (p,l)=>p∧∃o l1,l=l1++(false,[.ifp c.tp o 0])::c.Z∧kcomps c.Z=true∧kcells (c.C x)=true∧fo st.hp o= .box c.tb (c.C x)∧
   match mtL (fo st.hp) c.rs l1 (c.F x)with
   |some (q,u)=>q∧nodupN u=true∧memN o u=false
   |none=>False
 |none=>False
def mPick:Nat→List (Bool×List S1)→Option (List (Bool×List S1)×TypeId×Nat×List (Bool×List S1))
 |0,(false,[.ifp t o 0])::r=>some ([],t,o,r)
 |n+1,x::l=>match mPick n l with
  |some (a,t,o,r)=>some (x::a,t,o,r)
  |none=>none
 |_,_=>none
theorem mPick_eq:∀ {n:Nat} {l a r:List (Bool×List S1)} {t:TypeId} {o:Nat},mPick n l=some (a,t,o,r)→l=a++(false,[.ifp t o 0])::r
 |0,l,a,r,t,o,h=>by
  unfold mPick at h
  split at h
  ·cases h;rfl
  ·exact absurd ‹0=Nat.succ _› (by omega)
  ·cases h
 |n+1,l,a,r,t,o,h=>by
  unfold mPick at h
  split at h
  ·exact absurd ‹Nat.succ n=0› (by omega)
  ·rename_i n' x l' hh
   cases hh
   split at h
   ·rename_i a' t' o' r' e
    cases h
    rw[mPick_eq e]
    rfl
   ·cases h
  ·cases h
def RetMC(P:Program)(results:List ResultVar)(c:MCon)(x:(tyL c.al).den):St→Prop:=fun st=>
 match retV P (fo st.hp) st.fr results with
 |some (p,l)=>match mPick c.rs.length l with
  |some (l1,t,o,r)=>p∧t=c.tp∧r=c.Z∧kcomps c.Z=true∧kcells (c.C x)=true∧fo st.hp o= .box c.tb (c.C x)∧
   match mtL (fo st.hp) c.rs l1 (c.F x)with
   |some (q,u)=>q∧nodupN u=true∧memN o u=false
   |none=>False
  |none=>False
 |none=>False
theorem RetM.of{P:Program}{results:List ResultVar}{c:MCon}{x:(tyL c.al).den}{st:St}(h:RetMC P results c x st):RetM P results c x st:=by
 unfold RetMC at h
 unfold RetM
 split at h
 ·rename_i p l e
  split at h
  ·rename_i l1 t o r e2
   obtain⟨h1,rfl,rfl,h2,h3,h4,h5⟩:=h
   exact⟨h1,o,l1,mPick_eq e2,h2,h3,h4,h5⟩
  ·exact h.elim
 ·exact h.elim
theorem O_keys(c:MCon)(x:(tyL c.al).den)(i:Nat):(∀o,o∈keys (c.O x i)→i≤o∧o<i+(nslL c.rs+1))∧(keys (c.O x i)).Nodup:=by
 obtain⟨h1,h2⟩:=resO_keys c.rs (c.F x) i
 have e:keys (c.O x i)=keys (resO c.rs (c.F x) i)++[i+nslL c.rs]:=by simp[MCon.O,keys]
 rw[e]
 refine⟨fun o ho=>?_,List.nodup_append.2 ⟨h2,by simp,fun p hp q hq e=>?_⟩⟩
 ·rcases List.mem_append.1 ho with ho|ho
  ·have:=h1 o ho;omega
  ·have:=List.mem_singleton.1 ho;omega
 ·have:=h1 p hp
  have:=List.mem_singleton.1 hq
  omega
theorem O_lo(c:MCon)(x:(tyL c.al).den)(i:Nat){q:Nat}(h:q≠i+nslL c.rs):fo (c.O x i) q=fo (resO c.rs (c.F x) i) q:=by
 unfold MCon.O
 by_cases hk:q∈keys (resO c.rs (c.F x) i)
 ·exact fo_app_in hk
 ·rw[fo_app_out hk,fo_not hk]
  exact fo_not (by simp[keys];exact h)
theorem O_hi(c:MCon)(x:(tyL c.al).den)(i:Nat):fo (c.O x i) (i+nslL c.rs)= .box c.tb (c.C x):=by
 unfold MCon.O
 rw[fo_app_out (fun hk=>by have:=(resO_keys c.rs (c.F x) i).1 _ hk;omega)]
 simp[fo_cons]
theorem mret_ok{P:Program}{G:Ctx}{fn:Func}{c:MCon}{x:(tyL c.al).den}{S:Nat→Prop}{w0:World}{i:Nat}{st:St}{E:Env}{a:Act}{w:World}(hG:G.w0=w0∧G.mod=fun _=>False)(hbad:E.bad=S)
 (h:RetM P fn.results.toList c x st) (hc:Conc P G st E a w):∃v,(results fn a.tmps).run P w= .ok v w∧c.Post S x i w0 (.returned v) w:=by
 unfold RetM at h
 split at h
 ·rename_i p l hr
  obtain⟨h1,o,l1,rfl,hkZ,hkC,ho,h⟩:=h
  split at h
  ·rename_i q u hq
   obtain⟨h2,h3,h4⟩:=h
   obtain⟨vs,hv1,hv2⟩:=retV_ok hc.pre _ p _ hr h1
   obtain⟨vs1,vs2,rfl,hva,hvb⟩:=hv2.unapp
   obtain⟨ue,vsZ,rfl,hve,hvZ⟩:=hvb.uncons
   obtain⟨loc,src,hj⟩:=injL_ok hc.pre.mem hc.pre.ob c.rs l1 (c.F x) i vs1 q u hq h2 hva
   have hrun:(results fn a.tmps).run P w= .ok (if hs:(vs1++ue::vsZ).toArray.size=1 then(vs1++ue::vsZ).toArray[0]else .tuple (vs1++ue::vsZ).toArray) w:=by
    have h0:results fn a.tmps=(do let us ←fn.results.mapM (rv a.tmps);pure (if h:us.size=1 then us[0]else .tuple us)):=by
     unfold results
     congr 1
    have h1':(fn.results.mapM (rv a.tmps)).run P w= .ok (vs1++ue::vsZ).toArray w:=by
     rw[Array.mapM_eq_mapM_toList]
     simp[hv1]
    rw[h0]
    simp only[Sem.run_bind,h1',Result.andThen_ok,Sem.run_pure]
   have m:=hc.pre.mem
   obtain⟨hG1,hG2⟩:=hG
   have hmod:∀b,¬G.mod b:=by intro b hb;rw[hG2]at hb;exact hb
   have hob:E.ob o= .box c.tb (c.C x):=(hc.pre.ob o).trans ho
   have hbo:E.born o:=m.born_of (by rw[hob];simp)
   have hm:=m.hp o hbo
   rw[hob]at hm
   obtain⟨b,us,ex,hl,hh,hs⟩:=hm
   have hue:ue= .iface c.tp (.pointer (some ⟨b,0,none⟩)):=by
    obtain⟨v,vs,e,q1,q2⟩:=(hve.2 rfl).uncons
    cases e
    obtain⟨_,q1⟩:=q1
    rw[hob]at q1
    obtain⟨b',e1,e2⟩:=q1
    rw[hl]at e1
    cases e1
    exact e2
   have hnu:o∉u:=fun hm=>by rw[(memN_iff o u).2 hm]at h4;cases h4
   let loc':Loc:=fun q=>if q=i+nslL c.rs then some (b,0)else loc q
   have hrange:∀q,q≠i+nslL c.rs→fo (c.O x i) q≠ .dead→i≤q∧q<i+nslL c.rs:=by
    intro q hne hd
    rw[O_lo c x i hne]at hd
    rcases Classical.em (q∈keys (resO c.rs (c.F x) i))with hk|hk
    ·exact(resO_keys c.rs (c.F x) i).1 q hk
    ·exact absurd (fo_not hk) hd
   have hwh:∀q b' f,q≠i+nslL c.rs→fo (c.O x i) q≠ .dead→loc' q=some (b',f)→∃p g,src q=some p∧E.loc p=some (b',g)∧(E.ob p).mut=true∧p≠o:=by
    intro q b' f hne hd hq'
    obtain⟨r1,r2⟩:=hrange q hne hd
    have hq2:loc q=some (b',f):=by
     have:loc' q=loc q:=if_neg hne
     rw[←this];exact hq'
    obtain⟨p,g,s1,s2,s3⟩:=hj.whence q b' f r1 r2 hq2
    exact⟨p,g,s1,s2,s3,fun e=>hnu (e▸hj.mem q p r1 r2 s1)⟩
   refine⟨_,hrun,_,loc',rfl,?_,hj.wf,fun q q' b' f f' k1 k2 k3 k4=>?_,fun q b' f k1 k2=>?_,fun E' hE'=>?_⟩
   ·rw[←hG1]
    exact⟨m.os,m.tape,m.output,m.size,fun b hb=>m.old b hb (hmod b)⟩
   ·by_cases e1:q=i+nslL c.rs<;>by_cases e2:q'=i+nslL c.rs
    ·omega
    ·have:loc' q=some (b,0):=if_pos e1
     rw[this]at k3
     cases k3
     obtain⟨p,g,_,s2,s3,s4⟩:=hwh q' _ _ e2 k2 k4
     exact absurd (m.sep p o b g 0 (mut_ne s3) (by rw[hob];simp) s2 hl) s4
    ·have:loc' q'=some (b,0):=if_pos e2
     rw[this]at k4
     cases k4
     obtain⟨p,g,_,s2,s3,s4⟩:=hwh q _ _ e1 k1 k3
     exact absurd (m.sep p o b g 0 (mut_ne s3) (by rw[hob];simp) s2 hl) s4
    ·obtain⟨p,g,s1,s2,s3,_⟩:=hwh q _ _ e1 k1 k3
     obtain⟨p',g',s1',s2',s3',_⟩:=hwh q' _ _ e2 k2 k4
     have e:=m.sep p p' b' g g' (mut_ne s3) (mut_ne s3') s2 s2'
     subst e
     obtain⟨r1,r2⟩:=hrange q e1 k1
     obtain⟨r3,r4⟩:=hrange q' e2 k2
     exact hj.inj (nodupN_ok h3) q q' p r1 r2 r3 r4 s1 s1'
   ·rw[←hG1]
    by_cases e1:q=i+nslL c.rs
    ·have:loc' q=some (b,0):=if_pos e1
     rw[this]at k2
     cases k2
     exact(m.new o b 0 (by rw[hob];simp) hl).resolve_right (hmod b)
    ·obtain⟨p,g,s1,s2,s3,_⟩:=hwh q _ _ e1 k1 k2
     exact(m.new p b' g (mut_ne s3) s2).resolve_right (hmod b')
   ·obtain⟨hE1,hE2⟩:=hE'
    have hR:∀q,i≤q→q<i+nslL c.rs→E'.born q∧E'.ob q=fo (resO c.rs (c.F x) i) q∧E'.loc q=loc q:=fun q k1 k2=>by
     obtain⟨r1,r2,r3⟩:=hE1 q k1 (by omega)
     refine⟨r1,r2.trans (O_lo c x i (by omega)),r3.trans (if_neg (by omega))⟩
    obtain⟨x1,x2,x3⟩:=hE1 (i+nslL c.rs) (by omega) (by omega)
    have x3':E'.loc (i+nslL c.rs)=some (b,0):=x3.trans (if_pos rfl)
    have x2':=x2.trans (O_hi c x i)
    have hown:∀b',E'.owned b'→E.owned b':=by
     intro b' hb'
     rcases hE2 b' hb' with hb'|⟨q,f,r1,r2,r3,r4⟩
     ·exact .inl (by rw[hbad];exact hb')
     ·by_cases e1:q=i+nslL c.rs
      ·have:loc' q=some (b,0):=if_pos e1
       rw[this]at r4
       cases r4
       exact .inr ⟨o,0,by rw[hob];rfl,hl⟩
      ·obtain⟨p,g,s1,s2,s3,_⟩:=hwh q _ _ e1 (mut_ne r3) r4
       exact .inr ⟨p,g,s3,s2⟩
    refine⟨fun q k1 k2=>?_,?_⟩
    ·by_cases e1:q=i+nslL c.rs
     ·subst e1
      rw[O_hi]
      exact⟨b,us,ex,x3',hh,kcells_ok hkC hs⟩
     ·rw[O_lo c x i e1]
      exact hj.obs E' hR hown q k1 (by omega)
    ·refine resV_ok ((hj.cells E' hR).app (.cons ⟨fun h=>(by cases h),fun _=> .one ⟨x1,?_⟩⟩ (kcomps_ok hkZ hvZ)))
     rw[x2']
     exact⟨b,x3',hue⟩
  ·exact h.elim
 ·exact h.elim
theorem mcon_q{P:Program}{c:MCon}{fn:Func}{code:Code}(hf:P.funcs[c.f]? =some fn)(hb:fn.body=some code)(hn:fn.name≠ "runtime.NumGoroutine")
 (h:∀x,(tyL c.al).wf x→c.pre x→OkQ P [] (RetM P fn.results.toList c x) [.c code] ⟨appSV (argSV c.al x) (unks (fn.ntmps - c.al.length)),[],0⟩) (hlen:c.al.length≤fn.ntmps):c.Ok P where
 enters args w:=by
  have:¬fn.name= "runtime.NumGoroutine" :=hn
  simp[callFunc,hf,hb,this]
 calls S w vs x hS hgw har hwf hpre i:=by
  refine(callsIn_fr (r:=none) (n:=0)).1 (callsIn_of_wp_marks hf hb trivial ?_ rfl)
  let G:Ctx:=⟨w,fun _=>False,[],S,none,[],[],none⟩
  let E:Env:=⟨fun _=> .dead,fun _=>none,fun _=>False,S⟩
  have hE:E.owned=S:=by
   funext b
   refine propext ⟨fun h=>?_,fun h=> .inl h⟩
   rcases h with h|⟨o,f,h1,h2⟩
   ·exact h
   ·cases h2
  obtain⟨hal,hav⟩:=argSV_ok (E:=E) (w:=w) c.al vs x (by rw[hE];exact har)
  have hasl:∀(al:List (Bool×Ty)) (x:(tyL al).den),(argSV al x).length=al.length:=by
   intro al
   induction al with
   |nil=>intro _;rfl
   |cons p al ih=>intro x;obtain⟨b,t⟩:=p;cases b<;>simp[argSV,ih]
  refine h x hwf hpre G (bodyPostM (Fr none) 0 P fn (c.Post S x i w)) ⟨fun p hp=>(by cases hp),fun p hp=>(by cases hp),fun E0 w1 h0=>(by cases h0)⟩ (fun st E a w' hr hc=>?_) E _ w ⟨⟨⟨?_,fun _ _=>rfl,?_,?_,?_,rfl,rfl,rfl,rfl,Nat.le_refl _,fun _ _ _=>rfl,?_,fun p hp=>(by cases hp),fun b hb=>(by cases hb),⟨hgw.1,fun b hb=>⟨fun h=>h,hgw.2 b hb⟩⟩,fun E0 w1 h0=>(by cases h0)⟩,fun _=>rfl,fun i=>?_⟩,fun _ h=>h.elim,?_,⟨[],rfl,List.nodup_nil,fun b hb=>(by cases hb)⟩,fun p hp=>(by cases hp)⟩
  ·have key:∀a' w',a'.tmps=a.tmps→Conc P G st E a' w'→∃v,(results fn a.tmps).run P w'= .ok v w'∧c.Post S x i w (.returned v) w':=fun a' w' ht hc=>by
    rw[←ht]
    exact mret_ok (G:=G) ⟨rfl,rfl⟩ hc.pre.mem.bd hr hc
   exact⟨hc.leave key,hc.leave key⟩
  ·intro o ho;exact ho.elim
  ·intro o o' b f f' h1;exact absurd rfl h1
  ·intro o b f h1;exact absurd rfl h1
  ·intro b hb;exact⟨hS b hb,fun h=>h⟩
  ·intro p hp;cases hp
  ·rw[gl_app]
   by_cases hi:i<(argSV c.al x).length
   ·rw[if_pos hi]
    refine hav i _ ?_
    have hi':i<vs.length:=by omega
    simp[hi',Array.getElem?_append]
   ·rw[if_neg hi,gl_unks];trivial
  ·simp[app_len,unks_len,hasl,hal]
theorem land_os{G:Ctx}{E:Env}{w w':World}{hp:List (Nat×Ob)}(m:Mem G E w)(hpo:∀i,E.ob i=fo hp i){os:List (Nat×Ob)}{i n:Nat}(hk:(∀q,q∈keys os→i≤q∧q<i+n)∧(keys os).Nodup)(hnx:∀q,i≤q→q<i+n→¬E.born q)
 {r:SV} {v:Value} {loc:Loc} (hbel:RowKit.Below w.heap.size w w') (hsep:∀o o' b f f',fo os o≠ .dead→fo os o'≠ .dead→loc o=some (b,f)→loc o'=some (b,f')→o=o')
 (hfresh:∀o b f,fo os o≠ .dead→loc o=some (b,f)→w.heap.size≤b)
 (hall:∀E':Env,MEnv os i n loc E.owned E'→(∀q,i≤q→q<i+n→ObOk E' w' q (fo os q))∧SVok E' w' r v):
 ∃E',Mem G E' w'∧Evo E E' w w'∧(∀q,E'.ob q=fo (uos hp os) q)∧(∀q,E'.born q→E.born q∨(i≤q∧q<i+n))∧SVok E' w' r v:=by
 obtain⟨hk1,hk2⟩:=hk
 let E':Env:= {ob:=fun o=>fo (uos hp os) o,loc:=fun o=>if i≤o∧o<i+n then loc o else E.loc o,born:=fun o=>E.born o∨(i≤o∧o<i+n),bad:=E.bad}
 have hob:∀q,E'.ob q=if q∈keys os then fo os q else E.ob q:=by
  intro q
  show fo (uos hp os) q=_
  rw[fo_uos hk2,hpo]
 have hin:∀q,i≤q→q<i+n→E'.ob q=fo os q∧E'.loc q=loc q:=by
  intro q h1 h2
  refine⟨?_,if_pos ⟨h1,h2⟩⟩
  rw[hob]
  by_cases hq:q∈keys os
  ·rw[if_pos hq]
  ·rw[if_neg hq,m.unb q (hnx q h1 h2),fo_not hq]
 have hout:∀q,¬(i≤q∧q<i+n)→E'.ob q=E.ob q∧E'.loc q=E.loc q:=by
  intro q hq
  refine⟨?_,if_neg hq⟩
  rw[hob,if_neg (fun hk=>hq (hk1 q hk))]
 have hdec:∀q,(i≤q∧q<i+n)∨¬(i≤q∧q<i+n):=fun q=>Decidable.em _
 have hown:∀b,E'.owned b→E.owned b∨∃q f,i≤q∧q<i+n∧(fo os q).mut=true∧loc q=some (b,f):=by
  rintro b (hb|⟨q,f,h1,h2⟩)
  ·exact .inl (.inl hb)
  ·rcases hdec q with hq|hq
   ·obtain⟨e1,e2⟩:=hin q hq.1 hq.2
    rw[e1]at h1
    rw[e2]at h2
    exact .inr ⟨q,f,hq.1,hq.2,h1,h2⟩
   ·obtain⟨e1,e2⟩:=hout q hq
    rw[e1]at h1
    rw[e2]at h2
    exact .inl (.inr ⟨q,f,h1,h2⟩)
 have hev:Evo E E' w w':=by
  refine⟨fun q hq=> .inl hq,fun q hq=>?_,fun b hb ho=>?_,fun b hb _=>hbel.block b hb,fun b cs T fz hc=>⟨cs,fz,(hbel.block b (lt_of_row hc)).trans hc,rfl⟩,hbel.size,rfl,fun b y hy=>by rw[hbel.block b (lt_of_obj hy),hy];exact OthK.same⟩
  ·have hn:¬(i≤q∧q<i+n):=fun hr=>hnx q hr.1 hr.2 hq
   obtain⟨e1,e2⟩:=hout q hn
   rw[e1,e2]
   cases hx:E.ob q with
   |dead=>exact .inl rfl
   |box Tb cs=>exact .inr ⟨rfl,rfl⟩
   |arr fz z e xs=>exact .inr ⟨⟨rfl,rfl,rfl⟩,rfl⟩
   |lp s fr ps a b pd=>exact .inr ⟨trivial,rfl⟩
   |it s2 p2=>exact .inr ⟨trivial,rfl⟩
   |mp es2=>exact .inr ⟨trivial,rfl⟩
  ·rcases hown b ho with hb'|⟨q,f,h1,h2,h3,h4⟩
   ·exact hb'
   ·have:=hfresh q b f (mut_ne h3) h4
    omega
 obtain⟨hobs,hv⟩:=hall E' ⟨fun q h1 h2=>⟨.inr ⟨h1,h2⟩,(hin q h1 h2).1,(hin q h1 h2).2⟩,hown⟩
 refine⟨E',?_,hev,fun q=>rfl,fun q hq=>hq,hv⟩
 refine m.step hev (fun q=>i≤q∧q<i+n) (fun q hb hq=>?_) (fun q hq=>?_) (fun q hq=>?_) (fun p p' b f1 f2 h1 h2 h3 h4=>?_) (fun q b f h1 h2=>?_) hbel.os hbel.tape hbel.output
  (fun b hb _=>hbel.block b (Nat.lt_of_lt_of_le hb m.size))
 ·obtain⟨e1,e2⟩:=hout q hq
  exact⟨hb.resolve_right hq,e1,e2,fun b f hd hl=>hbel.block b (m.lt hd hl)⟩
 ·rw[(hin q hq.1 hq.2).1]
  exact hobs q hq.1 hq.2
 ·rcases hdec q with hr|hr
  ·exact absurd (.inr hr) hq
  ·rw[(hout q hr).1]
   exact m.unb q fun hb=>hq (.inl hb)
 ·rcases hdec p with hp1|hp1<;>rcases hdec p' with hp2|hp2
  ·rw[(hin p hp1.1 hp1.2).1]at h1
   rw[(hin p' hp2.1 hp2.2).1]at h2
   rw[(hin p hp1.1 hp1.2).2]at h3
   rw[(hin p' hp2.1 hp2.2).2]at h4
   exact hsep p p' b f1 f2 h1 h2 h3 h4
  ·rw[(hin p hp1.1 hp1.2).1]at h1
   rw[(hin p hp1.1 hp1.2).2]at h3
   rw[(hout p' hp2).1]at h2
   rw[(hout p' hp2).2]at h4
   have:=hfresh p b f1 h1 h3
   have:=m.lt h2 h4
   omega
  ·rw[(hin p' hp2.1 hp2.2).1]at h2
   rw[(hin p' hp2.1 hp2.2).2]at h4
   rw[(hout p hp1).1]at h1
   rw[(hout p hp1).2]at h3
   have:=hfresh p' b f2 h2 h4
   have:=m.lt h1 h3
   omega
  ·rw[(hout p hp1).1]at h1
   rw[(hout p' hp2).1]at h2
   rw[(hout p hp1).2]at h3
   rw[(hout p' hp2).2]at h4
   exact m.sep p p' b f1 f2 h1 h2 h3 h4
 ·rcases hdec q with hr|hr
  ·rw[(hin q hr.1 hr.2).1]at h1
   rw[(hin q hr.1 hr.2).2]at h2
   have:=hfresh q b f h1 h2
   have:=m.size
   exact .inl (by omega)
  ·rw[(hout q hr).1]at h1
   rw[(hout q hr).2]at h2
   exact m.new q b f h1 h2
theorem m_gen{P:Program}{G:Ctx}{st:St}{E:Env}{a:Act}{w:World}{c:MCon}(hok:c.Ok P){o:Oper}{g:Operand}{args:Array Operand}{ats:Array TypeId}{x:(tyL c.al).den}(hop:o.op= .call {callee:= .value g,args:=args,argTypes:=ats})
 (hf:pkV (ev st.fr g)= .s (.fn c.f [])) (hk:pkP (ev st.fr g)∧pkPs st.fr args.toList) (hx:sArgs (fo st.hp) c.al (pkVs st.fr args.toList)=some x) (hid:allIds (pkVs st.fr args.toList)=[]) (hpre:c.pre x)
 (hc:Conc P G st E a w) {K:Act→World→Prop} {R:Exit→Act→World→Prop}
 (hK:(tyL c.rs).wf (c.F x)→∀E a w,Conc P G ⟨setD st.fr o.dst (resV (c.R x st.nx)),uos st.hp (c.O x st.nx),st.nx+(nslL c.rs+1)⟩ E a w→K a w):o.wpIn (Fr G.rd) 0 P a w K R:=by
 have hf':=hc.pre.pk hk.1
 rw[hf]at hf'
 obtain⟨vs,e1,e2,_⟩:=hf'
 have hvs:vs=[]:=List.eq_nil_of_length_eq_zero e2
 subst hvs
 obtain⟨d,op,ty,pos,af,gd⟩:=o
 simp only at hop
 subst hop
 refine op_in (fun c e=>by cases e) ?_
 obtain⟨args⟩:=args
 have hrun:=enters_run (d:=d) (ty:=ty) (pos:=pos) (af:=af) (gd:=gd) (w:=w) (args:=args) (ats:=ats) hok.enters e1 rfl
 obtain⟨hl,hv⟩:=pkVs_ok hc.pre args hk.2
 have hid':allIds (pkVs st.fr args)=[]:=hid
 have har:=sArgs_ok hc.pre (S:=E.owned) (fun _ hb=>hb) c.al _ _ x hx (fun o ho=>by rw[hid']at ho;cases ho) hl hv
 have m:=hc.pre.mem
 have hcl:=hok.calls _ w _ x (fun b hb=>by
  rcases hb with hb|⟨q,f,h1,h2⟩
  ·exact Nat.lt_of_lt_of_le (m.bad b hb).1 m.size
  ·exact m.lt (mut_ne h1) h2) ⟨m.gw.1,m.gw.2⟩ har har.wf hpre st.nx
 unfold Oper.wp
 rw[hrun,Oper.upon_enter]
 refine hcl.mono fun e w' hpost=>?_
 obtain⟨v,loc,rfl,hbel,hwf,hsep,hfresh,hall⟩:=hpost
 obtain⟨E',hm,hev,hob,hbn,hval⟩:=land_os m hc.pre.ob (O_keys c x st.nx) (fun q h1 _ hb=>Nat.not_lt_of_le h1 (hc.born q hb)) hbel hsep hfresh hall
 exact hK hwf E' _ _ (hc.behind hm hev hob hbn hval (Nat.le_add_right _ _))
theorem OkQ.mcall{P:Program}{kp:List Nat}{Q:St→Prop}{all l:List Oper}{o:Oper}{k:List It}{st:St}{c:MCon}(hok:c.Ok P){g:Operand}{args:Array Operand}{ats:Array TypeId}(x:(tyL c.al).den)
 (hop:o.op= .call {callee:= .value g,args:=args,argTypes:=ats}) (hg:o.guard=none)
 (hf:pkV (ev st.fr g)= .s (.fn c.f [])) (hk:pkP (ev st.fr g)∧pkPs st.fr args.toList) (hx:sArgs (fo st.hp) c.al (pkVs st.fr args.toList)=some x) (hid:allIds (pkVs st.fr args.toList)=[]) (hpre:c.pre x)
 (h:(tyL c.rs).wf (c.F x)→OkQ P kp Q (.ops all l::k) ⟨setD st.fr o.dst (resV (c.R x st.nx)),uos st.hp (c.O x st.nx),st.nx+(nslL c.rs+1)⟩):OkQ P kp Q (.ops all (o::l)::k) st:=by
 intro G B hs hQ E a w hc
 exact wpListIn_plain hg fun K hK=>m_gen hok hop hf hk hx hid hpre hc fun hwf E a w hc'=>hK _ _ (h hwf G B hs hQ E a w hc')
def RetD(P:Program)(results:List ResultVar)(c:Con)(d:MCon)(hal:(tyL c.2).den=(tyL d.al).den)(x:(tyL c.2).den):St→Prop:=fun st=>(c.pre x→RetC P results c x st)∧(d.pre (cast hal x)→RetM P results d (cast hal x) st)
theorem RetD.mk{P:Program}{results:List ResultVar}{c:Con}{d:MCon}{hal:(tyL c.2).den=(tyL d.al).den}{x:(tyL c.2).den}{st:St}(h1:c.pre x→RetC P results c x st)(h2:d.pre (cast hal x)→RetM P results d (cast hal x) st):RetD P results c d hal x st:=⟨h1,h2⟩
theorem mcon_r{P:Program}{c:Con}{d:MCon}(pre0:(tyL c.2).den→Prop)(hal:c.2=d.al)(hfd:d.f=c.f){fn:Func}{code:Code}
 (hf:P.funcs[c.f]? =some fn) (hb:fn.body=some code) (hn:fn.name≠ "runtime.NumGoroutine") (h1:∀x,c.pre x→pre0 x) (h2:∀x,d.pre (cast (by rw[hal]) x)→pre0 x)
 (h:∀x,(tyL c.2).wf x→pre0 x→OkQ P [] (RetD P fn.results.toList c d (by rw[hal]) x) [.c code] ⟨appSV (argSV c.2 x) (unks (fn.ntmps - c.2.length)),[],0⟩)
 (hlen:c.2.length≤fn.ntmps):c.Ok P∧d.Ok P:=by
 obtain⟨f2,al2,rs2,Z,tp,tb,pre2,F2,C2⟩:=d
 dsimp only at hal hfd
 subst hal
 subst hfd
 exact⟨con_q hf hb hn (fun x hx hp=>OkQ.monoQ (fun _ q=>q.1 hp) (h x hx (h1 x hp))) hlen,mcon_q hf hb hn (fun x hx hp=>OkQ.monoQ (fun _ q=>q.2 hp) (h x hx (h2 x hp))) hlen⟩
end
end Go.Proofs.YthopfpplnclanaaGreatDoor.Sx
namespace Go.Proofs.YthopfpplnclanaaGreatDoor.Sx
attribute [local irreducible] OkQ Ok RetD
set_option linter.unusedSimpArgs false
set_option linter.unusedVariables false
theorem bIEi25:bodyI Tryz.prog 25=bodyF Tryz.f25:=by kernel_rfl
theorem nEEi25:isEsc Tryz.prog 25=false:=by kernel_rfl
theorem bIEi9:bodyI Tryz.prog 9=bodyF Tryz.f9:=by kernel_rfl
theorem nEEi9:isEsc Tryz.prog 9=false:=by kernel_rfl
theorem bIEi21:bodyI Tryz.prog 21=bodyF Tryz.f21:=by kernel_rfl
theorem nEEi21:isEsc Tryz.prog 21=false:=by kernel_rfl
theorem bIEi24:bodyI Tryz.prog 24=bodyF Tryz.f24:=by kernel_rfl
theorem nEEi24:isEsc Tryz.prog 24=false:=by kernel_rfl
theorem bIEi35:bodyI Tryz.prog 35=bodyF Tryz.f35:=by kernel_rfl
theorem nEEi35:isEsc Tryz.prog 35=false:=by kernel_rfl
theorem bIEi36:bodyI Tryz.prog 36=bodyF Tryz.f36:=by kernel_rfl
theorem nEEi36:isEsc Tryz.prog 36=false:=by kernel_rfl
theorem bIEi47:bodyI Tryz.prog 47=bodyF Tryz.f47:=by kernel_rfl
theorem nEEi47:isEsc Tryz.prog 47=false:=by kernel_rfl
theorem bIEi33:bodyI Tryz.prog 33=bodyF Tryz.f33:=by kernel_rfl
theorem nEEi33:isEsc Tryz.prog 33=false:=by kernel_rfl
theorem bIEi45:bodyI Tryz.prog 45=bodyF Tryz.f45:=by kernel_rfl
theorem nEEi45:isEsc Tryz.prog 45=false:=by kernel_rfl
open Nat renaming reduceEqDiff→Z0,reduceBEq→Z1,reduceAdd→Z2,reduceSub→Z3,reduceMul→Z4,reduceLeDiff→Z5
open Int renaming reduceEq→Z6,reduceLE→Z7,reduceLT→Z8,reduceNeg→Z9,reduceToNat→ZA,reduceAdd→ZB,reduceSub→ZC,reduceMul→ZD
set_option maxRecDepth 8000
def eOk(few:Int)(t:List UInt8):Prop:=(casesV t).1=0∨(0≤few∧few<((casesV t).2.2.length:Int))
noncomputable def eachL(few:Int)(l:List CD):List CD:=if 0≤few∧few<(l.length:Int)then l.take (few.toNat+1)else l
def cEachP(x:(tyL [(false,.str),(false,.str),(false,.int .i64)]).den):Prop:=(x.2.1:List UInt8).length≤100000000000
noncomputable def cEach:Con:=⟨5,[(false,.str),(false,.str),(false,.int .i64)],[(false,tCs),(false,.opq),(false,.bool)],fun x=>cEachP x∧eOk x.2.2.1 x.2.1,fun x=>(eachL x.2.2.1 (casesV x.2.1).2.2,.nilIface,true,()),false⟩
noncomputable def cEachX:MCon:=⟨5,[(false,.str),(false,.str),(false,.int .i64)],[(false,tCs)],[(false,[.bool true])],76,78,fun x=>cEachP x∧¬eOk x.2.2.1 x.2.1,fun x=>((casesV x.2.1).2.2,()),fun x=>[.str x.1,.int .i64 (casesV x.2.1).2.1,.int .i64 (casesV x.2.1).1]⟩
theorem cEach_al:cEach.2=[(false,.str),(false,.str),(false,.int .i64)]:=rfl
def EaP(few:Int)(t:List UInt8)(x:RdS):Prop:=x.1≤(pcsV t).length∧x.2.1.length≤x.1∧cdFold t (x.1+1) ((pcsV t).drop x.1) x.2.2 x.2.1=casesV t∧(few<0∨(x.2.1.length:Int)≤few)
set_option maxHeartbeats 40000000 in
noncomputable def eRound: {G:List UInt8→List UInt8→Int→RdS→Prop // (∀file t few x,t.length≤100000000000→EaP few t x→G file t few x)→cEach.Ok Tryz.prog∧cEachX.Ok Tryz.prog}:=by
 apply Subtype.mk
 case property=>
 intro hG
 refine mcon_r (d:=cEachX) cEachP rfl rfl Tryz.func5 rfl (by decide) (fun _ h=>h.1) (fun _ h=>h.1) (fun x hx hp=>run_ok (Cs:=[linPieces,linScan,wrdBlank,cNumber,cOne,wrdClasses,cCheck,cloneLv,cloneOd,lawTwin]) (stp:=[16]) (inl:=[9,21,24,35,36,47,33,45,25]) (unr:=false) (cons_ok linPieces_ok (cons_ok linScan_ok (cons_ok wrdBlank_ok (cons_ok cNumber_ok (cons_ok cOne_ok (cons_ok wrdClasses_ok (cons_ok cCheck_ok (cons_ok cloneLv_ok (cons_ok cloneOd_ok (cons_ok lawTwin_ok nil_ok)))))))))) 100 _ _ _ _ ?_) (by decide)
 obtain⟨(file:List UInt8),(t:List UInt8),(few:Int),⟨⟩⟩:=x
 have hz:t.length≤100000000000:=hp
 clear hx hp
 simp(maxSteps:=4000000)only[go_sem,reduceIte,reduceCtorEq,Z0,Z1,Z2,Z3,Z4,Z5,Z6,Z7,Z8,Z9,ZA,ZB,ZC,ZD,Tryz.f5,cEach_al,oneN,oneP,oneM,oneF,bIEi9,nEEi9,Tryz.f9,bIEi21,nEEi21,Tryz.f21,bIEi24,nEEi24,Tryz.f24,bIEi35,nEEi35,Tryz.f35,bIEi36,nEEi36,Tryz.f36,bIEi47,nEEi47,Tryz.f47,bIEi33,nEEi33,Tryz.f33,bIEi45,nEEi45,Tryz.f45,bIEi25,nEEi25,Tryz.f25,linPieces,linScan,wrdBlank,cNumber,cOne,wrdClasses,cCheck,cloneLv,cloneOd,lawTwin]
 refine OkQ.opX rfl rfl ?_
 refine run_ok (Cs:=[linPieces,linScan,wrdBlank,cNumber,cOne,wrdClasses,cCheck,cloneLv,cloneOd,lawTwin]) (stp:=[]) (inl:=[9,21,24,35,36,47,33,45,25]) (unr:=false) (cons_ok linPieces_ok (cons_ok linScan_ok (cons_ok wrdBlank_ok (cons_ok cNumber_ok (cons_ok cOne_ok (cons_ok wrdClasses_ok (cons_ok cCheck_ok (cons_ok cloneLv_ok (cons_ok cloneOd_ok (cons_ok lawTwin_ok nil_ok)))))))))) 100 _ _ _ _ ?_
 simp(maxSteps:=4000000)only[go_sem,reduceIte,reduceCtorEq,Z0,Z1,Z2,Z3,Z4,Z5,Z6,Z7,Z8,Z9,ZA,ZB,ZC,ZD,oneN,oneP,oneM,oneF,bIEi9,nEEi9,Tryz.f9,bIEi21,nEEi21,Tryz.f21,bIEi24,nEEi24,Tryz.f24,bIEi35,nEEi35,Tryz.f35,bIEi36,nEEi36,Tryz.f36,bIEi47,nEEi47,Tryz.f47,bIEi33,nEEi33,Tryz.f33,bIEi45,nEEi45,Tryz.f45,bIEi25,nEEi25,Tryz.f25,linPieces,linScan,wrdBlank,cNumber,cOne,wrdClasses,cCheck,cloneLv,cloneOd,lawTwin]
 refine OkQ.opX rfl rfl ?_
 refine run_ok (Cs:=[linPieces,linScan,wrdBlank,cNumber,cOne,wrdClasses,cCheck,cloneLv,cloneOd,lawTwin]) (stp:=[]) (inl:=[9,21,24,35,36,47,33,45,25]) (unr:=false) (cons_ok linPieces_ok (cons_ok linScan_ok (cons_ok wrdBlank_ok (cons_ok cNumber_ok (cons_ok cOne_ok (cons_ok wrdClasses_ok (cons_ok cCheck_ok (cons_ok cloneLv_ok (cons_ok cloneOd_ok (cons_ok lawTwin_ok nil_ok)))))))))) 100 _ _ _ _ ?_
 simp(maxSteps:=4000000)only[go_sem,reduceIte,reduceCtorEq,Z0,Z1,Z2,Z3,Z4,Z5,Z6,Z7,Z8,Z9,ZA,ZB,ZC,ZD,oneN,oneP,oneM,oneF,bIEi9,nEEi9,Tryz.f9,bIEi21,nEEi21,Tryz.f21,bIEi24,nEEi24,Tryz.f24,bIEi35,nEEi35,Tryz.f35,bIEi36,nEEi36,Tryz.f36,bIEi47,nEEi47,Tryz.f47,bIEi33,nEEi33,Tryz.f33,bIEi45,nEEi45,Tryz.f45,bIEi25,nEEi25,Tryz.f25,linPieces,linScan,wrdBlank,cNumber,cOne,wrdClasses,cCheck,cloneLv,cloneOd,lawTwin]
 refine OkQ.opX rfl rfl ?_
 refine run_ok (Cs:=[linPieces,linScan,wrdBlank,cNumber,cOne,wrdClasses,cCheck,cloneLv,cloneOd,lawTwin]) (stp:=[]) (inl:=[9,21,24,35,36,47,33,45,25]) (unr:=false) (cons_ok linPieces_ok (cons_ok linScan_ok (cons_ok wrdBlank_ok (cons_ok cNumber_ok (cons_ok cOne_ok (cons_ok wrdClasses_ok (cons_ok cCheck_ok (cons_ok cloneLv_ok (cons_ok cloneOd_ok (cons_ok lawTwin_ok nil_ok)))))))))) 100 _ _ _ _ ?_
 simp(maxSteps:=4000000)only[go_sem,reduceIte,reduceCtorEq,Z0,Z1,Z2,Z3,Z4,Z5,Z6,Z7,Z8,Z9,ZA,ZB,ZC,ZD,oneN,oneP,oneM,oneF,bIEi9,nEEi9,Tryz.f9,bIEi21,nEEi21,Tryz.f21,bIEi24,nEEi24,Tryz.f24,bIEi35,nEEi35,Tryz.f35,bIEi36,nEEi36,Tryz.f36,bIEi47,nEEi47,Tryz.f47,bIEi33,nEEi33,Tryz.f33,bIEi45,nEEi45,Tryz.f45,bIEi25,nEEi25,Tryz.f25,linPieces,linScan,wrdBlank,cNumber,cOne,wrdClasses,cCheck,cloneLv,cloneOd,lawTwin]
 refine OkQ.opX rfl rfl ?_
 refine run_ok (Cs:=[linPieces,linScan,wrdBlank,cNumber,cOne,wrdClasses,cCheck,cloneLv,cloneOd,lawTwin]) (stp:=[]) (inl:=[9,21,24,35,36,47,33,45,25]) (unr:=false) (cons_ok linPieces_ok (cons_ok linScan_ok (cons_ok wrdBlank_ok (cons_ok cNumber_ok (cons_ok cOne_ok (cons_ok wrdClasses_ok (cons_ok cCheck_ok (cons_ok cloneLv_ok (cons_ok cloneOd_ok (cons_ok lawTwin_ok nil_ok)))))))))) 100 _ _ _ _ ?_
 simp(maxSteps:=4000000)only[go_sem,reduceIte,reduceCtorEq,Z0,Z1,Z2,Z3,Z4,Z5,Z6,Z7,Z8,Z9,ZA,ZB,ZC,ZD,oneN,oneP,oneM,oneF,bIEi9,nEEi9,Tryz.f9,bIEi21,nEEi21,Tryz.f21,bIEi24,nEEi24,Tryz.f24,bIEi35,nEEi35,Tryz.f35,bIEi36,nEEi36,Tryz.f36,bIEi47,nEEi47,Tryz.f47,bIEi33,nEEi33,Tryz.f33,bIEi45,nEEi45,Tryz.f45,bIEi25,nEEi25,Tryz.f25,linPieces,linScan,wrdBlank,cNumber,cOne,wrdClasses,cCheck,cloneLv,cloneOd,lawTwin]
 (repeat' first|apply And.intro|intro _|(show staB _ _=true;kernel_rfl)|(show dynB _ _=true;kernel_rfl)|(show dynP _ _ _=true;kernel_rfl))
 all_goals try first|contradiction|omega
 refine OkQ.virt 88 tC ?_
 refine OkQ.virt 1 (.int .i8) ?_
 refine OkQ.virt 8 (.int .i64) ?_
 refine OkQ.loopF3 (α:=RdS) 18 15 8 [3,4,5,6,9,10,11,12,13,14,15,16,17,18,19,20,21,22,23] [6,7,8,9,20,21,22,23,24,25,26,27,28,29,30,31,32,33,34,35,36,37,38,39,40,41,42,43,44,45,46,47,48,49,50,51,52,53,54,55,56,57,58,59,60,61,62,63,64,65,66,67,68] [12,13,20,21,22,23,24,25,26,27,28,29,30,31,32,33,34,35,36,37,38,39,40,41,42,43,44,45,46,47,48,49,50,51,52,53,54,55,56,57,58,59,60,61,62,63,64,65,66,67,68,69,70,71] [2,3,4,5,8,9,10,11,12,13,14,15,16,17,18,19,20,21,22,23,24,25,26,27,28,29] (fun x=>[(8,.s (.int .i64 (x.1:Int)))])
  (fun x=>[(4,.box 23 [.sub 20 0 x.2.1.length]),(10,.box 64 [.sub 21 0 x.2.2.1.length,.sub 22 0 x.2.2.2.1.length,.bool x.2.2.2.2.1,.bool x.2.2.2.2.2]),(20,.arr false 88 tC x.2.1),(21,.arr false 1 (.int .i8) x.2.2.1),(22,.arr false 8 (.int .i64) x.2.2.2.1)])
  (EaP few t) (fun x=>(pcsV t).length - x.1) (0,[],stZ) rfl rfl rfl ⟨Nat.zero_le _,Nat.zero_le _,rfl,(Int.lt_or_le few 0).imp id (fun h=>by simpa using h)⟩ ?_ fun x hx=>?_
 ·simp(maxSteps:=4000000)only[go_sem,reduceIte,reduceCtorEq,Z0,Z1,Z2,Z3,Z4,Z5,Z6,Z7,Z8,Z9,ZA,ZB,ZC,ZD,stZ,linPieces,linScan,wrdBlank,cNumber,cOne,wrdClasses,cCheck,cloneLv,cloneOd,lawTwin]
  all_goals first|rfl|exact⟨rfl,rfl⟩|exact⟨⟨rfl,rfl⟩,rfl⟩|exact⟨rfl,rfl,rfl⟩|fail
 exact hG file t few x hz hx
end Go.Proofs.YthopfpplnclanaaGreatDoor.Sx
