/- A part of the proof. -/
import Derived.Test.YtcbmonndkjihkaaGreatDoorT3
import Derived.Lib.AppendIntMem
import Derived.Lib.AtoiErrMem
import Derived.Shelf.Strings.Trim
import Derived.Shelf.Small.Utf8
import Derived.Shelf.Small.Strs
import Derived.Shelf.Strconv.Atoi
import Derived.Shelf.Strconv.Itoa0
import Derived.Shelf.Strconv.Itoa1
import Derived.Shelf.LaysM
import Derived.Shelf.Strconv.Itoa2
import Derived.Shelf.Strconv.Itoa3
import Derived.Shelf.Strconv.AtoiErrFast
import Derived.Shelf.Strconv.ParseIntEmpty
import Derived.Shelf.Strconv.AtoiFail
import Derived.Shelf.Strconv.Clone
import Derived.Shelf.Strconv.SyntaxError
import Derived.Shelf.LaysC
import Derived.Shelf.Strconv.ToError
import Derived.Shelf.Strconv.Lower
import Derived.Shelf.Strconv.ParseUint10
import Derived.Shelf.Strconv.ParseUint10Empty
import Derived.Shelf.Strconv.ParseUint10Any
import Derived.Shelf.Strconv.ParseInt10
import Derived.Shelf.Strconv.AtoiLong
import Derived.Shelf.Strconv.AtoiInnerAll
import Derived.Shelf.Strconv.RangeError
import Derived.Shelf.Strconv.ToErrorRange
import Derived.Shelf.Strconv.AtoiAll
import Derived.Shelf.Strings.Search1
import Derived.Shelf.Strings.Search2
import Derived.Shelf.Strings.Search3
import Derived.Shelf.Strings.Cut
import Derived.Shelf.Strings.Count
import Derived.Shelf.Strings.Shaped
import Derived.Shelf.Strings.Split
import Derived.Shelf.Strings.Runes
import Derived.Shelf.Strings.AsciiSet
import Derived.Shelf.Unicode.DecodeSlow
import Derived.Test.YtcbmonndkjihkaaGreatDoorProg
import Derived.WalkKit
import Derived.LaidEql
import Derived.Stop.Asserts
import Derived.RowKitTokens
import Derived.Test.YtcbmonndkjihkaaGreatDoorT2
import Derived.Test.YtcbmonndkjihkaaGreatDoorT0
import Derived.Test.YtcbmonndkjihkaaGreatDoorT1
namespace Go.Proofs.YtcbmonndkjihkaaGreatDoor.Sx
set_option linter.unusedSimpArgs false
set_option linter.unusedVariables false
noncomputable section
section
variable{P:Program}{G:Ctx}{E:Env}{w:World}{hp:List (Nat×Ob)}{nx:Nat}{fr fr':List SV}{a:Act}{ob ob':Nat→Ob}
variable{d:Option Tmp}{ty:TypeId}{pos:String}{af:Array Edge}{gd:Option (Nat×Bool)}
theorem orF_some{x y:Option FU}{u:FU}(h:orF x y=some u):x=some u∨y=some u:=by
 cases x with
 |none=>exact .inr h
 |some v=>exact .inl h
theorem map_one{α β:Type}{f:α→β}{l:List α}{x:β}(h:l.map f=[x]):∃a,l=[a]∧f a=x:=by
 match l,h with
 |[a],h=>exact⟨a,rfl,by simpa using h⟩
theorem map_two{α β:Type}{f:α→β}{l:List α}{x y:β}(h:l.map f=[x,y]):∃a b,l=[a,b]∧f a=x∧f b=y:=by
 match l,h with
 |[a,b],h=>exact⟨a,b,rfl,by simpa using h⟩
theorem cond_some{α:Type}{c:Bool}{x:Option α}{u:α}(h:(bif c then x else none)=some u):x=some u:=by
 cases c
 ·cases h
 ·exact h
theorem xApp_hi{t t':TypeId}{s x:SV}{u:FU}(hs:xApp P ob nx t t' s x=some u):u.hi=nx+1:=by
 unfold xApp at hs
 repeat' (first|split at hs|replace hs:=cond_some hs)
 all_goals first|(cases hs;done)|(cases hs;rfl)
theorem xMake_hi{t:TypeId}{s x:SV}{u:FU}(hs:xMake P nx t s x=some u):u.hi=nx+1:=by
 unfold xMake at hs
 repeat' (first|split at hs|replace hs:=cond_some hs)
 all_goals first|(cases hs;done)|(cases hs;rfl)
theorem xBytes_hi{t t':TypeId}{x:SV}{u:FU}(hs:xBytes P nx t t' x=some u):u.hi=nx+1:=by
 unfold xBytes at hs
 repeat' (first|split at hs|replace hs:=cond_some hs)
 all_goals first|(cases hs;done)|(cases hs;rfl)
theorem xBSl_hi{t:TypeId}{n:Nat}{ps:Array (Nat×Operand)}{u:FU}(hs:xBSl P nx fr t n ps=some u):u.hi=nx+1:=by
 unfold xBSl at hs
 repeat' (first|split at hs|replace hs:=cond_some hs)
 all_goals first|(cases hs;done)|(cases hs;rfl)
theorem xLookup_hi{t:TypeId}{m x:SV}{ok:Bool}{u:FU}(hs:xLookup P ob nx t m ok x=some u):u.hi=nx:=by
 unfold xLookup lookR at hs
 repeat' (first|split at hs|replace hs:=cond_some hs)
 all_goals first|(cases hs;done)|(cases hs;rfl)
theorem xUpdate_hi{t:TypeId}{k v m:SV}{u:FU}(hs:xUpdate P ob nx t k v m=some u):u.hi=nx:=by
 unfold xUpdate at hs
 repeat' (first|split at hs|replace hs:=cond_some hs)
 all_goals first|(cases hs;done)|(cases hs;rfl)
theorem xFunc_hi{f:FuncId}{caps:List Operand}{l:Option (List (Nat×Nat))}{u:FU}(hs:xFunc ob nx f caps l=some u):u.hi=nx:=by
 unfold xFunc at hs
 repeat' (first|split at hs|replace hs:=cond_some hs)
 all_goals first|(cases hs;done)|(cases hs;rfl)
theorem xConv_hi{t t':TypeId}{x:SV}{u:FU}(hs:xConv P ob nx t t' x=some u):u.hi=nx:=by
 unfold xConv at hs
 repeat' (first|split at hs|replace hs:=cond_some hs)
 all_goals first|(cases hs;done)|(cases hs;rfl)
theorem xPtr_hi{op:BinOp}{t:TypeId}{x y:SV}{u:FU}(hs:xPtr P ob nx op t y x=some u):u.hi=nx:=by
 unfold xPtr at hs
 repeat' (first|split at hs|replace hs:=cond_some hs)
 all_goals first|(cases hs;done)|(cases hs;rfl)
theorem xIAddr_hi{t:TypeId}{x y:SV}{u:FU}(hs:xIAddr P ob nx t y x=some u):u.hi=nx:=by
 unfold xIAddr at hs
 repeat' (first|split at hs|replace hs:=cond_some hs)
 all_goals first|(cases hs;done)|(cases hs;rfl)
theorem xByte_hi{g:FuncId}{x y:SV}{u:FU}(hs:xByte P nx g y x=some u):u.hi=nx:=by
 unfold xByte at hs
 split at hs
 ·split at hs
  ·replace hs:=cond_some hs
   cases h1:isExt P "internal/bytealg.IndexByteString" g<;>rw[h1]at hs
   ·replace hs:=cond_some hs
    cases hs;rfl
   ·cases hs;rfl
  ·cases hs
 ·cases hs
theorem xAs_hi{g:FuncId}{x y:SV}{u:FU}(hs:xAs ob nx g y x=some u):u.hi=nx:=by
 unfold xAs at hs
 repeat' (first|split at hs|replace hs:=cond_some hs)
 all_goals first|(cases hs;done)|(cases hs;rfl)
theorem xNoZ_hi{g:FuncId}{x:SV}{u:FU}(hs:xNoZ P nx g x=some u):u.hi=nx+1:=by
 unfold xNoZ at hs
 repeat' (first|split at hs|replace hs:=cond_some hs)
 all_goals first|(cases hs;done)|(cases hs;rfl)
theorem xCut_hi{t:TypeId}{y x:SV}{u:FU}(hs:xCut P ob nx t y x=some u):u.hi=nx+1:=by
 unfold xCut at hs
 repeat' (first|split at hs|replace hs:=cond_some hs)
 all_goals first|(cases hs;done)|(cases hs;rfl)
theorem xCall_hi{c:Call}{u:FU}(hs:xCall P ob nx fr c=some u):nx≤u.hi:=by
 unfold xCall xCallV at hs
 split at hs
 ·have:=xApp_hi hs;omega
 ·unfold xLen at hs
  repeat' (first|split at hs|replace hs:=cond_some hs)
  all_goals first|(cases hs;done)|(cases hs;exact Nat.le_refl _)
 ·unfold xData at hs
  repeat' (first|split at hs|replace hs:=cond_some hs)
  all_goals first|(cases hs;done)|(cases hs;exact Nat.le_refl _)
 ·unfold xStr at hs
  repeat' (first|split at hs|replace hs:=cond_some hs)
  all_goals first|(cases hs;done)|(cases hs;exact Nat.le_refl _)
 ·unfold xCap at hs
  repeat' (first|split at hs|replace hs:=cond_some hs)
  all_goals first|(cases hs;done)|(cases hs;exact Nat.le_refl _)
 ·unfold xCopy at hs
  repeat' (first|split at hs|replace hs:=cond_some hs)
  all_goals first|(cases hs;done)|(cases hs;exact Nat.le_refl _)
 ·rcases orF_some hs with hs|hs
  ·replace hs:=cond_some hs
   unfold xEsc at hs
   repeat' (first|split at hs|replace hs:=cond_some hs)
   all_goals first|(cases hs;done)|(cases hs;exact Nat.le_refl _)
  ·have:=xNoZ_hi hs;omega
 ·rcases orF_some hs with hs|hs
  ·have:=xAs_hi hs;omega
  ·have:=xByte_hi hs;omega
 ·cases hs
theorem stepX_hi{op:Op}{u:FU}(h:stepX P ob nx fr op=some u):nx≤u.hi:=by
 unfold stepX at h
 split at h
 ·cases h;exact Nat.le_succ _
 ·have:=xLookup_hi h;omega
 ·have:=xUpdate_hi h;omega
 ·have:=xUpdate_hi h;omega
 ·have:=xMake_hi h;omega
 ·have:=xFunc_hi h;omega
 ·rcases orF_some h with h|h
  ·have:=xConv_hi h;omega
  ·have:=xBytes_hi h;omega
 ·exact xCall_hi h
 ·have:=xPtr_hi h;omega
 ·have:=xBSl_hi h;omega
 ·have:=xCut_hi h;omega
 ·have:=xIAddr_hi h;omega
 ·cases h
theorem land_insert(h:Pre P G E w hp fr a){t:TypeId}{m k x:Operand}{u:FU}(hs:xUpdate P (fo hp) nx t (ev fr k) (ev fr x) (ev fr m)=some u):
 Land P G E w hp nx ⟨d,.insert t m k x,ty,pos,af,gd⟩ a ⟨True,u.val,u.ws,u.hi,True⟩:=land_update (d:=d) (ty:=ty) (pos:=pos) (af:=af) (gd:=gd) h hs
theorem land_xcall [Hits P](h:Pre P G E w hp fr a){c:Call}{u:FU}(hs:xCall P (fo hp) nx fr c=some u)(hnx:nx<u.hi→¬E.born nx):
 Land P G E w hp nx ⟨d,.call c,ty,pos,af,gd⟩ a ⟨True,u.val,u.ws,u.hi,True⟩:=by
 obtain⟨callee,args,ats⟩:=c
 unfold xCall xCallV at hs
 simp only at hs
 split at hs
 ·rename_i s x t t' ha ht
  obtain⟨p,q,e1,rfl,rfl⟩:=map_two ha
  rw[toList_two e1,toList_two ht]
  exact land_app h (hnx (by rw[xApp_hi hs];exact Nat.lt_succ_self _)) hs
 ·rename_i x t ha ht
  obtain⟨p,e1,rfl⟩:=map_one ha
  rw[toList_one e1,toList_one ht]
  exact land_xlen h hs
 ·rename_i s ha
  obtain⟨p,e1,rfl⟩:=map_one ha
  rw[toList_one e1]
  exact land_data h hs
 ·rename_i p n pt t' ha ht
  obtain⟨x,y,e1,rfl,rfl⟩:=map_two ha
  rw[toList_two e1,toList_two ht]
  exact land_str h hs
 ·rename_i x t ha ht
  obtain⟨p,e1,rfl⟩:=map_one ha
  rw[toList_one e1,toList_one ht]
  exact land_cap h hs
 ·rename_i x y t t' ha ht
  obtain⟨p,q,e1,rfl,rfl⟩:=map_two ha
  rw[toList_two e1,toList_two ht]
  exact land_copy h hs
 ·rename_i g x ha
  obtain⟨p,e1,rfl⟩:=map_one ha
  rw[toList_one e1]
  rcases orF_some hs with hs|hs
  ·cases he:isEsc P g
   ·rw[he]at hs;cases hs
   rw[he]at hs
   exact land_esc h he hs
  ·exact land_noZ h (hnx (by rw[xNoZ_hi hs];exact Nat.lt_succ_self _)) hs
 ·rename_i g x y ha
  obtain⟨p,q,e1,rfl,rfl⟩:=map_two ha
  rw[toList_two e1]
  rcases orF_some hs with hs|hs
  ·exact land_as h hs
  ·exact land_byte h hs
 ·cases hs
theorem stepX_ok [Hits P](h:Pre P G E w hp fr a){op:Op}{u:FU}(hs:stepX P (fo hp) nx fr op=some u)(hnx:∀o,nx≤o→o<u.hi→¬E.born o):
 Land P G E w hp nx ⟨d,op,ty,pos,af,gd⟩ a ⟨True,u.val,u.ws,u.hi,True⟩:=by
 have hn:nx<u.hi→¬E.born nx:=fun hi=>hnx nx (Nat.le_refl _) hi
 unfold stepX at hs
 split at hs
 ·cases hs;exact land_makeMap h (hn (Nat.lt_succ_self _))
 ·exact land_lookup h hs
 ·exact land_update h hs
 ·exact land_insert h hs
 ·exact land_make h (hn (by rw[xMake_hi hs];exact Nat.lt_succ_self _)) hs
 ·exact land_func h hs
 ·rcases orF_some hs with hs|hs
  ·exact land_conv h hs
  ·exact land_bytes h (hn (by rw[xBytes_hi hs];exact Nat.lt_succ_self _)) hs
 ·exact land_xcall h hs hn
 ·exact land_xptr h hs
 ·exact land_bsl h (hn (by rw[xBSl_hi hs];exact Nat.lt_succ_self _)) hs
 ·exact land_cut h (hn (by rw[xCut_hi hs];exact Nat.lt_succ_self _)) hs
 ·exact land_xidx h hs
 ·cases hs
theorem stepX_nd{op:Op}{u:FU}(h:stepX P ob nx fr op=some u):∀c,op≠ .defer c:=fun c e=>by subst e;cases h
end
end
end Go.Proofs.YtcbmonndkjihkaaGreatDoor.Sx
namespace Go.Proofs.YtcbmonndkjihkaaGreatDoor.Sx
set_option linter.unusedSimpArgs false
set_option linter.unusedVariables false
noncomputable section
section
variable{P:Program}{G:Ctx}{B:Exit→Act→World→Prop}
theorem inline_fb{R:SV→List (Nat×Ob)→Nat→Prop}{o:Oper}{st:St}{c:Call}{f:Operand}{g:FuncId}{caps:List (Nat×Nat)}{fn:Func}{code:Code}(hop:o.op= .call c)(hcal:c.callee= .value f)
 (hno:c.args= #[]) (hfv:pkV (ev st.fr f)= .s (.fb g caps)) (hpk:pkP (ev st.fr f)) (hbx:boxes (fo st.hp) caps=true)
 (hf:P.funcs[g]? =some fn) (hb:fn.body=some code) (hn:fn.name≠ "runtime.NumGoroutine") (hsz:caps.length≤fn.ntmps)
 (h:∀(G':Ctx) (B':Exit→Act→World→Prop),(∀p∈G'.sus,(∃i,p.1=gl st.fr i)∨p∈G.sus)→(G'.rds=G.rds∧G'.st0=G.st0)→(∀st2 E2 a2 w2,RetI P fn.results.toList R st2→Conc P G' st2 E2 a2 w2→B' .ret a2 w2∧B' .normal a2 w2)→
   Ok P G' B' [.c code] ⟨appSV (pbs caps) (unks (fn.ntmps - caps.length)),st.hp,st.nx⟩)
 {E:Env} {a:Act} {w:World} (hc:Conc P G st E a w) {K:Act→World→Prop} {Q:Exit→Act→World→Prop} (hK:∀v hp nx E a w,R v hp nx→Conc P G ⟨setD st.fr o.dst v,hp,nx⟩ E a w→K a w):o.wpIn (Fr G.rd) 0 P a w K Q:=by
 have hfe:=hc.pre.pk hpk
 rw[hfv]at hfe
 obtain⟨cvs,e1,e2,e3⟩:=hfe
 obtain⟨d,op,ty,pos,af,gd⟩:=o
 simp only at hop
 subst hop
 obtain⟨callee,args,ats⟩:=c
 simp only at hcal hno h
 subst hcal
 subst hno
 have hrun:(execOp a.eval ⟨d,.call {callee:= .value f,args:= #[],argTypes:=ats},ty,pos,af,gd⟩).run P w= .ok (.enter g cvs.toArray) w:=by
  have hcf:∀vs2 w,(callFunc g vs2).run P w= .ok (.enter g vs2) w:=fun vs2 w=>by
   have:¬fn.name= "runtime.NumGoroutine" :=hn
   simp[callFunc,hf,hb,this]
  simp[execOp,resolve,e1,Deferred.ofValue,invoke,hcf]
 refine op_in (fun c' e=>by cases e) ?_
 unfold Oper.wp
 rw[hrun,Oper.upon_enter]
 refine(callsIn_fr (r:=none) (n:=0)).1 (callsIn_of_wp_marks hf hb trivial ?_ rfl)
 obtain⟨bs,hde,hnd,hbs⟩:=hc.dfr
 let G':Ctx:= {G with sus:=((List.range st.fr.length).map fun i=>(gl st.fr i,a.tmps.getD i undef))++G.sus,rd:=none,mrk:=bs++G.mrk}
 have hbx':=boxes_ok hc.pre.ob caps hbx
 refine h G' _ ?_ ⟨rfl,rfl⟩ (fun st2 E2 a2 w2 hr hc2=>?_) E _ w ⟨⟨⟨hc.pre.mem.hp,hc.pre.mem.unb,hc.pre.mem.sep,hc.pre.mem.new,hc.pre.mem.bad,hc.pre.mem.bd,hc.pre.mem.os,hc.pre.mem.tape,hc.pre.mem.output,hc.pre.mem.size,hc.pre.mem.old,?_,hc.pre.mem.rdk,?_,hc.pre.mem.gl,hc.pre.mem.ev⟩,hc.pre.ob,fun i=>?_⟩,hc.born,?_,⟨[],rfl,hnd,fun b hb=>(by cases hb)⟩,fun p hp=>(by cases hp)⟩
 ·intro p hp
  rcases List.mem_append.1 hp with hp|hp
  ·obtain⟨i,_,rfl⟩:=List.mem_map.1 hp
   exact .inl ⟨i,rfl⟩
  ·exact .inr hp
 ·unfold RetI at hr
  split at hr
  ·rename_i p cs hrv
   obtain⟨hp,hok⟩:=hr
   have key:∀a' w',a'.tmps=a2.tmps→Conc P G' st2 E2 a' w'→∃v,(results fn a2.tmps).run P w'= .ok v w'∧K (a.put d v) w':=fun a' w' ht hc2=>by
    rw[←ht]
    obtain⟨vs,hv1,hv2⟩:=retV_ok hc2.pre _ p cs hrv hp
    have m:=hc2.pre.mem
    refine⟨_,results_run hv1,hK _ _ _ E2 _ w' hok ?_⟩
    have hfr:∀i,SVok E2 w' (gl st.fr i) (a.tmps.getD i undef):=by
     intro i
     rcases Nat.lt_or_ge i st.fr.length with hi|hi
     ·exact m.sus _ (List.mem_append_left _ (List.mem_map.2 ⟨i,List.mem_range.2 hi,rfl⟩))
     ·rw[gl_out _ _ hi];trivial
    obtain⟨k1,k2⟩:=fr_put (E:=E2) (w:=w') (fr:=st.fr) (d:=d) hc.len hfr (resV_ok hv2)
    exact⟨⟨⟨m.hp,m.unb,m.sep,m.new,m.bad,m.bd,m.os,m.tape,m.output,m.size,m.old,fun p hp=>m.sus p (List.mem_append_right _ hp),m.rdk,fun b hb=>m.mks b (List.mem_append_right _ hb),m.gl,m.ev⟩,hc2.pre.ob,k2⟩,hc2.born,k1,
     put_dfr (G:=G) ⟨bs,hde,hnd,fun b hb=>⟨(hbs b hb).1,m.mks b (List.mem_append_left _ hb)⟩⟩,hc.rd⟩
   exact⟨hc2.leave key,hc2.leave key⟩
  ·exact hr.elim
 ·intro p hp
  rcases List.mem_append.1 hp with hp|hp
  ·obtain⟨i,_,rfl⟩:=List.mem_map.1 hp
   exact hc.pre.fr i
  ·exact hc.pre.mem.sus p hp
 ·intro b hb
  rcases List.mem_append.1 hb with hb|hb
  ·exact(hbs b hb).2
  ·exact hc.pre.mem.mks b hb
 ·rw[gl_app,pbs_len]
  by_cases hi2:i<caps.length
  ·rw[if_pos hi2,pbs_at,List.getElem?_eq_getElem hi2]
   have hcv:i<cvs.length:=by omega
   obtain⟨hbn,hm⟩:=e3 i _ _ (List.getElem?_eq_getElem hi2)
   obtain⟨Tb,cs,hcs⟩:=hbx' _ _ (List.getElem_mem hi2)
   rw[hcs]at hm
   obtain⟨b,hl1,hl2⟩:=hm
   refine⟨hbn,?_⟩
   rw[hcs]
   refine⟨b,hl1,?_⟩
   rw[List.getElem?_eq_getElem hcv]at hl2
   have hl3:=Option.some.inj hl2
   simp[Array.getElem?_append,hcv,hl3]
  ·rw[if_neg hi2,gl_unks];trivial
 ·simp[app_len,unks_len,pbs_len,e2]
end
theorem OkQ.opX{P:Program} [Hits P]{kp:List Nat}{Q:St→Prop}{all l:List Oper}{o:Oper}{k:List It}{st:St}{u:FU}(hs:stepX P (fo st.hp) st.nx st.fr o.op=some u)(hg:o.guard=none)
 (h:OkQ P kp Q (.ops all l::k) ⟨setD st.fr o.dst u.val,uos st.hp u.ws,u.hi⟩):OkQ P kp Q (.ops all (o::l)::k) st:=by
 intro G B hk hQ E a w hc
 refine wpListIn_plain hg fun K hK=>?_
 have hL:=stepX_ok (d:=o.dst) (ty:=o.type) (pos:=o.pos) (af:=o.after) (gd:=o.guard) hc.pre hs (fun i hi _ hb=>by have:=hc.born i hb;omega)
 exact op_in (stepX_nd hs) <| hL K _ fun v w' E' hm hev hob hb hv _=>hK _ _ (h G B hk hQ E' _ w' (hc.behind hm hev hob hb hv (stepX_hi hs)))
theorem OkQ.callFb{P:Program}{kp:List Nat}{Q:St→Prop}{all l:List Oper}{o:Oper}{k:List It}{st:St}{f:Operand}{ats:Array TypeId}{g:FuncId}{caps:List (Nat×Nat)}{code:Code}{rs:List ResultVar}{nt:Nat}
 (hop:o.op= .call {callee:= .value f,args:= #[],argTypes:=ats}) (hg:o.guard=none) (hfv:pkV (ev st.fr f)= .s (.fb g caps)) (hpk:pkP (ev st.fr f)) (hbx:boxes (fo st.hp) caps=true) (hbi:bodyI P g=some (code,rs,nt)) (hsz:caps.length≤nt)
 (h:OkQ P (ddN (idsF st.fr++kp)) (RetI P rs fun v hp nx=>OkQ P kp Q (.ops all l::k) ⟨setD st.fr o.dst v,hp,nx⟩) [.c code] ⟨appSV (pbs caps) (unks (nt - caps.length)),st.hp,st.nx⟩):OkQ P kp Q (.ops all (o::l)::k) st:=by
 intro G B hs hQ E a w hc
 obtain⟨fn,h5,h7,h6,rfl,rfl⟩:=bodyI_some hbi
 refine wpListIn_plain hg fun K hK=>?_
 refine inline_fb (R:=fun v hp nx=>Ok P G B (.ops all l::k) ⟨setD st.fr o.dst v,hp,nx⟩) hop rfl rfl hfv hpk hbx h5 h6 h7 hsz (fun G' B' hs' hr' hB'=>?_) hc fun v hp nx E a w hok hcc=>hK _ _ (hok E a w hcc)
 refine h G' B' ⟨fun p hp i hi=>?_,fun p hp=>?_,fun E0 w1 h0 o ho=>?_⟩ fun st2 E2 a2 w2 hr hc2=>hB' st2 E2 a2 w2 (RetI.mono (fun v hp nx hv=>hv G B hs hQ) hr) hc2
 ·rcases hs' p hp with⟨j,hj⟩|hp
  ·rw[hj]at hi
   exact mem_ddN (List.mem_append_left _ (idsF_at _ _ _ hi))
  ·exact mem_ddN (List.mem_append_right _ (hs.1 p hp i hi))
 ·rw[hr'.1]at hp
  exact mem_ddN (List.mem_append_right _ (hs.2.1 p hp))
 ·exact mem_ddN (List.mem_append_right _ (hs.2.2 E0 w1 (hr'.2.symm.trans h0) o ho))
end
end Go.Proofs.YtcbmonndkjihkaaGreatDoor.Sx
namespace Go.Proofs.YtcbmonndkjihkaaGreatDoor.Sx
attribute [local irreducible] OkQ Ok
set_option linter.unusedSimpArgs false
set_option linter.unusedVariables false
open Nat renaming reduceEqDiff→Z0,reduceBEq→Z1,reduceAdd→Z2,reduceSub→Z3,reduceMul→Z4,reduceLeDiff→Z5
open Int renaming reduceEq→Z6,reduceLE→Z7,reduceLT→Z8,reduceNeg→Z9,reduceToNat→ZA,reduceAdd→ZB,reduceSub→ZC,reduceMul→ZD
set_option maxRecDepth 8000
theorem trimPre_len(s p:List UInt8):(Lib.trimPrefix s p).length≤s.length:=by
 unfold Lib.trimPrefix
 split
 ·simp
 ·exact Nat.le_refl _
theorem trimSuf_len(s p:List UInt8):(Lib.trimSuffix s p).length≤s.length:=by
 unfold Lib.trimSuffix
 split
 ·simp
 ·exact Nat.le_refl _
def strCutPre:Con:=⟨65,[(false,.str),(false,.str)],[(false,.str),(false,.bool)],fun _=>True,fun x=>(Lib.trimPrefix x.1 x.2.1,Lib.hasPrefix x.1 x.2.1,()),true⟩
theorem tup2{E:Env}{w:World}{x y:S1}{v u:Value}(h1:S1ok E w x v)(h2:S1ok E w y u):SVok E w (.tup [(false,[x]),(false,[y])]) (.tuple #[v,u]):=by
 refine⟨[v,u],rfl,rfl,fun i bl c g1 g2=>?_⟩
 match i with
 |0=>simp at g1 g2;subst g1;subst g2;exact⟨fun h=>(by cases h),fun _=> .one h1⟩
 |1=>simp at g1 g2;subst g1;subst g2;exact⟨fun h=>(by cases h),fun _=> .one h2⟩
 |i+2=>simp at g1
theorem strCutPre_ok:strCutPre.Ok Tryz.prog:=by
 refine con_pure (enters_fn Tryz.func65 rfl (by decide)) fun S w vs x hr hwf hp=>?_
 obtain⟨(s:List UInt8),(p:List UInt8),⟨⟩⟩:=x
 obtain⟨v1,v2,rfl,h1,h2⟩:=args2 hr
 obtain⟨e1,hl⟩:=h1
 cases e1
 obtain⟨e2,hn⟩:=h2
 cases e2
 have hl:s.length≤140737488355328:=hl
 have ht:=trimPre_len s p
 have hle:(Lib.trimPrefix s p).length≤140737488355328:=by omega
 exact⟨_,Tryz.strings_CutPrefix ⟨s.toArray⟩ ⟨p.toArray⟩ w,⟨hle,trivial,trivial⟩,fun E w=>tup2 ⟨by simp,hle⟩ (by show _=_;simp)⟩
def strCutSuf:Con:=⟨66,[(false,.str),(false,.str)],[(false,.str),(false,.bool)],fun _=>True,fun x=>(Lib.trimSuffix x.1 x.2.1,Lib.hasSuffix x.1 x.2.1,()),true⟩
theorem strCutSuf_ok:strCutSuf.Ok Tryz.prog:=by
 refine con_pure (enters_fn Tryz.func66 rfl (by decide)) fun S w vs x hr hwf hp=>?_
 obtain⟨(s:List UInt8),(p:List UInt8),⟨⟩⟩:=x
 obtain⟨v1,v2,rfl,h1,h2⟩:=args2 hr
 obtain⟨e1,hl⟩:=h1
 cases e1
 obtain⟨e2,hn⟩:=h2
 cases e2
 have hl:s.length≤140737488355328:=hl
 have ht:=trimSuf_len s p
 have hle:(Lib.trimSuffix s p).length≤140737488355328:=by omega
 exact⟨_,Tryz.strings_CutSuffix ⟨s.toArray⟩ ⟨p.toArray⟩ w (by show s.length≤_;omega),⟨hle,trivial,trivial⟩,fun E w=>tup2 ⟨by simp,hle⟩ (by show _=_;simp)⟩
theorem i64In{n:Int}(h:IntKind.i64.has n): -9223372036854775808≤n∧n≤9223372036854775807:=by
 simpa[IntKind.has,IntKind.min,IntKind.max,IntKind.signed,IntKind.bits]using h
theorem i64Has{n:Int}(h: -9223372036854775808≤n∧n≤9223372036854775807):IntKind.i64.has n:=by
 simpa[IntKind.has,IntKind.min,IntKind.max,IntKind.signed,IntKind.bits]using h
def strItoa6:Con:=⟨78,[(false,.int .i64)],[(false,.str)],fun _=>True,fun x=>(Lib.itoa x.1,()),true⟩
theorem strItoa6_ok:strItoa6.Ok Tryz.prog:=by
 refine con_below (enters_fn Tryz.func78 rfl (by decide)) fun S w vs x hg hr hwf _=>?_
 obtain⟨(n:Int),⟨⟩⟩:=x
 obtain⟨v1,rfl,h1⟩:=args1 hr
 obtain⟨e1,hn⟩:=h1
 cases e1
 have hn':=i64In hn
 have hl:(Lib.itoa n).length≤20:=itoa_len hn'.1 hn'.2
 have htab:Lib.TabIs Tryz.prog w "internal/strconv.uint64pow10" .u64 Lib.pow10Tab:=by
  obtain⟨T,fz,e⟩:=hg.pow
  unfold Lib.TabIs World.var?
  rw[show Tryz.prog.globalNamed "internal/strconv.uint64pow10" =some 4 by kernel_rfl]
  simp[e]
 have hle:(Lib.itoa n).length≤140737488355328:=by omega
 exact⟨_,(Tryz.strconv_Itoa n hn'.1 hn'.2 w htab).mono (by rintro e w' ⟨rfl,k,os,rfl⟩;exact⟨rfl,Lib.below_grow _ w (Nat.le_refl _) k os⟩),⟨hle,trivial⟩,fun E w=>⟨rfl,hle⟩⟩
def atoiV(s:List UInt8):Int:=match Lib.atoiAll s with
 | .ok v=>v
 | .range=>Lib.atoiSat s
 |_=>0
def atoiOk(s:List UInt8):Bool:=match Lib.atoiAll s with
 | .ok _=>true
 |_=>false
def strAtoi:Con:=⟨77,[(false,.str)],[(false,.int .i64),(false,.opq)],fun x=>atoiOk x.1=true,fun x=>(atoiV x.1,.nilIface,()),true⟩
theorem atoi_in{s:List UInt8}{v:Int}(h:Lib.atoiAll s= .ok v): -9223372036854775808≤v∧v≤9223372036854775807:=by
 unfold Lib.atoiAll at h
 split at h
 ·cases h
 ·dsimp only at h
  split at h
  ·cases h
  ·cases h
  ·split at h
   ·cases h
   ·split at h
    ·cases h
    ·cases h
     split<;>omega
theorem strAtoi_ok:strAtoi.Ok Tryz.prog:=by
 refine con_below (enters_fn Tryz.func77 rfl (by decide)) fun S w vs x hg hr hwf hp=>?_
 obtain⟨(s:List UInt8),⟨⟩⟩:=x
 obtain⟨v1,rfl,h1⟩:=args1 hr
 obtain⟨e1,hn⟩:=h1
 cases e1
 have hl:s.length≤140737488355328:=hn
 have hp:atoiOk s=true:=hp
 obtain⟨v,hv⟩:∃v,Lib.atoiAll s= .ok v:=by
  unfold atoiOk at hp
  split at hp
  ·rename_i v h;exact⟨v,h⟩
  ·cases hp
 have hav:atoiV s=v:=by unfold atoiV;rw[hv]
 have hh:=i64Has (atoi_in hv)
 refine⟨_,(Tryz.strconv_Atoi_ok ⟨s.toArray⟩ (by show s.length≤_;omega) v (by simpa using hv) w).mono ?_,⟨?_,rfl,trivial⟩,fun E w=>tup2 ⟨rfl,?_⟩ ⟨rfl,rfl⟩⟩
 ·rintro e w' ⟨rfl,h|⟨t,h⟩⟩
  ·exact⟨by rw[hav],by rw[h];exact RowKit.Below.refl _ _⟩
  ·refine⟨by rw[hav],?_⟩
   rw[h]
   exact Lib.bytesWorld_below _ _ _
 ·show IntKind.i64.has (atoiV s)
  rw[hav];exact hh
 ·rw[hav];exact hh
def strAtoiX:OCon:=⟨77,[(false,.str)],fun x=>atoiOk x.1=false,fun x=>[(false,[.int .i64 (atoiV x.1)])]⟩
theorem sat_in(s:List UInt8): -9223372036854775808≤Lib.atoiSat s∧Lib.atoiSat s≤9223372036854775807:=by
 unfold Lib.atoiSat
 split<;>omega
theorem strAtoiX_ok:strAtoiX.Ok Tryz.prog where
 enters:=enters_fn Tryz.func77 rfl (by decide)
 calls S w vs x hg hr hwf hp:=by
  obtain⟨(s:List UInt8),⟨⟩⟩:=x
  obtain⟨v1,rfl,h1⟩:=args1 hr
  obtain⟨e1,hn⟩:=h1
  cases e1
  have hl:s.length≤140737488355328:=hn
  have hp:atoiOk s=false:=hp
  cases hv:Lib.atoiAll s
  case ok v=>rw[atoiOk,hv]at hp;cases hp
  case range=>
   obtain⟨t,u,he⟩:=hg.1.rng
   have hav:atoiV s=Lib.atoiSat s:=by unfold atoiV;rw[hv]
   refine(Tryz.strconv_Atoi_range ⟨s.toArray⟩ (by show s.length≤_;omega) (by simpa using hv) _ w he (.inr ⟨t,u,rfl⟩)).mono ?_
   rintro e w' ⟨N,rfl,_,_,hb⟩
   exact⟨_,_,_,rfl,hb,fun E=>tup2 (x:= .int .i64 (atoiV s)) ⟨by rw[hav],by rw[hav];exact i64Has (sat_in s)⟩ rfl⟩
  ·obtain⟨t,u,he⟩:=hg.1.syn
   have hav:atoiV s=0:=by unfold atoiV;rw[hv]
   refine(Tryz.strconv_Atoi_syntax ⟨s.toArray⟩ (by show s.length≤_;omega) hv _ w he (.inr ⟨t,u,rfl⟩)).mono ?_
   rintro e w' ⟨N,rfl,_,_,hb⟩
   exact⟨_,_,_,rfl,hb,fun E=>tup2 (x:= .int .i64 (atoiV s)) ⟨by rw[hav],by rw[hav];exact i64Has (by omega)⟩ rfl⟩
theorem half_cons(r p:List UInt8)(hp:p≠[]):halfOf (60::r) p=(Lib.hasSuffix r p&&!decide (Lib.trimSuffix r p=[])):=by
 have hpl:0<p.length:=List.length_pos_iff.2 hp
 unfold halfOf sufB
 have h0:(60::r).getD 0 0=60:=rfl
 rw[h0,show decide ((60:UInt8)=60)=true from rfl,Bool.true_and]
 rw[Bool.eq_iff_iff]
 simp only[Bool.and_eq_true,decide_eq_true_eq,Bool.not_eq_true',decide_eq_false_iff_not,List.length_cons]
 constructor
 ·rintro⟨h1,_,h3⟩
  have h4:r.drop (r.length - p.length)=p:=by
   rw[show r.length+1 - p.length=(r.length - p.length)+1 by omega,List.drop_succ_cons]at h3
   exact h3
  have hs:Lib.hasSuffix r p=true:=by
   unfold Lib.hasSuffix
   rw[List.isSuffixOf_iff_suffix]
   exact h4▸List.drop_suffix _ _
  refine⟨hs,?_⟩
  rw[Lib.trimSuffix,if_pos hs]
  intro h
  have:=congrArg List.length h
  simp at this
  omega
 ·rintro⟨hs,ht⟩
  rw[Lib.trimSuffix,if_pos hs]at ht
  unfold Lib.hasSuffix at hs
  rw[List.isSuffixOf_iff_suffix]at hs
  have hle:=hs.length_le
  have hne:r.length - p.length≠0:=fun h=>ht (by rw[h];rfl)
  refine⟨by omega,by omega,?_⟩
  rw[show r.length+1 - p.length=(r.length - p.length)+1 by omega,List.drop_succ_cons]
  exact(List.suffix_iff_eq_drop.1 hs).symm
theorem plain_cons{r p:List UInt8}(h:Lib.hasSuffix r p=true):plainOf (60::r) p=Lib.trimSuffix r p:=by
 unfold plainOf
 rw[Lib.trimSuffix,if_pos h]
 rfl
theorem half_not{s:List UInt8}(p:List UInt8)(h:Lib.hasPrefix s [60]=false):halfOf s p=false:=by
 unfold halfOf
 cases s with
 |nil=>rfl
 |cons c r=>
  have h0:(c::r).getD 0 0=c:=rfl
  have hc:((60:UInt8)==c&&true)=false:=h
  rw[Bool.and_true]at hc
  have:¬c=60:=by rintro rfl;exact absurd hc (by decide)
  rw[h0,decide_eq_false this,Bool.false_and]
def rowsHalf:Con:=⟨37,[(false,.str)],[(false,.str),(false,.bool),(false,.bool)],fun _=>True,fun x=>((halfV x.1).1,(halfV x.1).2.1,(halfV x.1).2.2,()),false⟩
set_option maxHeartbeats 1000000 in
theorem rowsHalf_ok:rowsHalf.Ok Tryz.prog:=by
 refine con_q Tryz.func37 rfl (by decide) (fun x hx hp=>go0 (cons_ok strCutPre_ok (cons_ok strCutSuf_ok nil_ok)) 0 ?_) (by decide)
 obtain⟨(s:List UInt8),⟨⟩⟩:=x
 clear hx hp
 cases hP:Lib.hasPrefix s [60]
 ·have hh:halfV s=([],false,false):=by rw[halfV,half_not _ hP,half_not _ hP];rfl
  refine go0 (cons_ok strCutPre_ok (cons_ok strCutSuf_ok nil_ok)) 60 ?_
  simp(maxSteps:=4000000)only[go_sem,reduceIte,reduceCtorEq,Z0,Z1,Z2,Z3,Z4,Z5,Z6,Z7,Z8,Z9,ZA,ZB,ZC,ZD,Tryz.f37,rowsHalf,hP,hh,strCutPre,strCutSuf]
  (repeat' first|apply And.intro|intro _)
  all_goals first|contradiction|omega|fail
 ·obtain⟨r,rfl⟩:∃r,s=60::r:=by
   cases s with
   |nil=>cases hP
   |cons c r=>
    have hc:((60:UInt8)==c&&true)=true:=hP
    rw[Bool.and_true,beq_iff_eq]at hc
    exact⟨r,by rw[hc]⟩
  have ht:Lib.trimPrefix (60::r) [60]=r:=by rw[Lib.trimPrefix,if_pos hP];rfl
  have f1:=half_cons r fstS (by decide)
  have f2:=half_cons r lstS (by decide)
  have q1:Lib.hasSuffix r [44,32,70,105,114,115,116,62]=Lib.hasSuffix r fstS:=rfl
  have q2:Lib.hasSuffix r [44,32,76,97,115,116,62]=Lib.hasSuffix r lstS:=rfl
  have q3:Lib.trimSuffix r [44,32,70,105,114,115,116,62]=Lib.trimSuffix r fstS:=rfl
  have q4:Lib.trimSuffix r [44,32,76,97,115,116,62]=Lib.trimSuffix r lstS:=rfl
  cases h1:Lib.hasSuffix r fstS
  ·have d0:=h1
   have g1:halfOf (60::r) fstS=false:=by rw[f1,h1];rfl
   cases h2:Lib.hasSuffix r lstS
   ·have g2:halfOf (60::r) lstS=false:=by rw[f2,h2];rfl
    have hh:halfV (60::r)=([],false,false):=by rw[halfV,g1,g2];rfl
    refine go0 (cons_ok strCutPre_ok (cons_ok strCutSuf_ok nil_ok)) 90 ?_
    simp(maxSteps:=4000000)only[go_sem,reduceIte,reduceCtorEq,Z0,Z1,Z2,Z3,Z4,Z5,Z6,Z7,Z8,Z9,ZA,ZB,ZC,ZD,Tryz.f37,rowsHalf,hP,ht,q1,q2,q3,q4,h1,h2,hh,strCutPre,strCutSuf]
    (repeat' first|apply And.intro|intro _)
    all_goals first|contradiction|omega|fail
   ·by_cases n2:Lib.trimSuffix r lstS=[]
    ·have d2:=dT n2
     have g2:halfOf (60::r) lstS=false:=by rw[f2,h2,d2];rfl
     have hh:halfV (60::r)=([],false,false):=by rw[halfV,g1,g2];rfl
     refine go0 (cons_ok strCutPre_ok (cons_ok strCutSuf_ok nil_ok)) 90 ?_
     simp(maxSteps:=4000000)only[go_sem,reduceIte,reduceCtorEq,Z0,Z1,Z2,Z3,Z4,Z5,Z6,Z7,Z8,Z9,ZA,ZB,ZC,ZD,Tryz.f37,rowsHalf,hP,ht,q1,q2,q3,q4,h1,h2,d2,hh,strCutPre,strCutSuf]
     (repeat' first|apply And.intro|intro _)
     all_goals first|contradiction|omega|fail
    ·have d2:=dF n2
     have g2:halfOf (60::r) lstS=true:=by rw[f2,h2,d2];rfl
     have hh:halfV (60::r)=(Lib.trimSuffix r lstS,false,true):=by rw[halfV,g1,g2,plain_cons h2];rfl
     refine go0 (cons_ok strCutPre_ok (cons_ok strCutSuf_ok nil_ok)) 90 ?_
     simp(maxSteps:=4000000)only[go_sem,reduceIte,reduceCtorEq,Z0,Z1,Z2,Z3,Z4,Z5,Z6,Z7,Z8,Z9,ZA,ZB,ZC,ZD,Tryz.f37,rowsHalf,hP,ht,q1,q2,q3,q4,h1,h2,d2,hh,strCutPre,strCutSuf]
     (repeat' first|apply And.intro|intro _)
     all_goals first|contradiction|omega|fail
  ·by_cases n1:Lib.trimSuffix r fstS=[]
   ·have d1:=dT n1
    have g1:halfOf (60::r) fstS=false:=by rw[f1,h1,d1];rfl
    cases h2:Lib.hasSuffix r lstS
    ·have g2:halfOf (60::r) lstS=false:=by rw[f2,h2];rfl
     have hh:halfV (60::r)=([],false,false):=by rw[halfV,g1,g2];rfl
     refine go0 (cons_ok strCutPre_ok (cons_ok strCutSuf_ok nil_ok)) 90 ?_
     simp(maxSteps:=4000000)only[go_sem,reduceIte,reduceCtorEq,Z0,Z1,Z2,Z3,Z4,Z5,Z6,Z7,Z8,Z9,ZA,ZB,ZC,ZD,Tryz.f37,rowsHalf,hP,ht,q1,q2,q3,q4,h1,d1,h2,hh,strCutPre,strCutSuf]
     (repeat' first|apply And.intro|intro _)
     all_goals first|contradiction|omega|fail
    ·by_cases n2:Lib.trimSuffix r lstS=[]
     ·have d2:=dT n2
      have g2:halfOf (60::r) lstS=false:=by rw[f2,h2,d2];rfl
      have hh:halfV (60::r)=([],false,false):=by rw[halfV,g1,g2];rfl
      refine go0 (cons_ok strCutPre_ok (cons_ok strCutSuf_ok nil_ok)) 90 ?_
      simp(maxSteps:=4000000)only[go_sem,reduceIte,reduceCtorEq,Z0,Z1,Z2,Z3,Z4,Z5,Z6,Z7,Z8,Z9,ZA,ZB,ZC,ZD,Tryz.f37,rowsHalf,hP,ht,q1,q2,q3,q4,h1,d1,h2,d2,hh,strCutPre,strCutSuf]
      (repeat' first|apply And.intro|intro _)
      all_goals first|contradiction|omega|fail
     ·have d2:=dF n2
      have g2:halfOf (60::r) lstS=true:=by rw[f2,h2,d2];rfl
      have hh:halfV (60::r)=(Lib.trimSuffix r lstS,false,true):=by rw[halfV,g1,g2,plain_cons h2];rfl
      refine go0 (cons_ok strCutPre_ok (cons_ok strCutSuf_ok nil_ok)) 90 ?_
      simp(maxSteps:=4000000)only[go_sem,reduceIte,reduceCtorEq,Z0,Z1,Z2,Z3,Z4,Z5,Z6,Z7,Z8,Z9,ZA,ZB,ZC,ZD,Tryz.f37,rowsHalf,hP,ht,q1,q2,q3,q4,h1,d1,h2,d2,hh,strCutPre,strCutSuf]
      (repeat' first|apply And.intro|intro _)
      all_goals first|contradiction|omega|fail
   ·have d1:=dF n1
    have g1:halfOf (60::r) fstS=true:=by rw[f1,h1,d1];rfl
    have hh:halfV (60::r)=(Lib.trimSuffix r fstS,true,false):=by rw[halfV,g1,plain_cons h1];rfl
    refine go0 (cons_ok strCutPre_ok (cons_ok strCutSuf_ok nil_ok)) 90 ?_
    simp(maxSteps:=4000000)only[go_sem,reduceIte,reduceCtorEq,Z0,Z1,Z2,Z3,Z4,Z5,Z6,Z7,Z8,Z9,ZA,ZB,ZC,ZD,Tryz.f37,rowsHalf,hP,ht,q1,q2,q3,q4,h1,d1,hh,strCutPre,strCutSuf]
    (repeat' first|apply And.intro|intro _)
    all_goals first|contradiction|omega|fail
end Go.Proofs.YtcbmonndkjihkaaGreatDoor.Sx
namespace Go.Proofs
open Go.Shelf
def Tryz.lays146_ren:Go.Shelf.Ren:=⟨fun|146=>81|221=>113|268=>133|138=>134|143=>135|195=>76|197=>158|218=>159|219=>139|260=>176|217=>124|225=>162|224=>163|267=>164|266=>148|314=>177|n=>n,fun|9=>9|31=>23|3=>3|4=>4|0=>0|105=>224|21=>21|5=>5|46=>181|119=>244|139=>247|138=>246|146=>240|51=>236|n=>n,fun|1=>3|3=>5|4=>6|n=>n⟩
theorem Tryz.lays146:Go.Proofs.Lays.n146 Tryz.prog Tryz.lays146_ren:= {
 mixed:=by kernel_rfl
 f138:=Tryz.func134.trans (congrArg some (by kernel_rfl))
 f143:=Tryz.func135.trans (congrArg some (by kernel_rfl))
 f146:=Tryz.func81.trans (congrArg some (by kernel_rfl))
 f195:=Tryz.func76.trans (congrArg some (by kernel_rfl))
 f197:=Tryz.func158.trans (congrArg some (by kernel_rfl))
 f217:=Tryz.func124.trans (congrArg some (by kernel_rfl))
 f218:=Tryz.func159.trans (congrArg some (by kernel_rfl))
 f219:=Tryz.func139.trans (congrArg some (by kernel_rfl))
 f221:=Tryz.func113.trans (congrArg some (by kernel_rfl))
 f224:=Tryz.func163.trans (congrArg some (by kernel_rfl))
 f225:=Tryz.func162.trans (congrArg some (by kernel_rfl))
 f260:=Tryz.func176.trans (congrArg some (by kernel_rfl))
 f266:=Tryz.func148.trans (congrArg some (by kernel_rfl))
 f267:=Tryz.func164.trans (congrArg some (by kernel_rfl))
 f268:=Tryz.func133.trans (congrArg some (by kernel_rfl))
 f314:=Tryz.func177.trans (congrArg some (by kernel_rfl))
 t0:=Tryz.underlying0
 a0:=Tryz.isAgg0
 z0:=Tryz.sizeOf0
 v0:=Tryz.zeroValue0
 t3:=Tryz.underlying3
 a3:=Tryz.isAgg3
 z3:=Tryz.sizeOf3
 v3:=Tryz.zeroValue3
 t4:=Tryz.underlying4
 a4:=Tryz.isAgg4
 z4:=Tryz.sizeOf4
 v4:=Tryz.zeroValue4
 t5:=Tryz.underlying5
 a5:=Tryz.isAgg5
 z5:=Tryz.sizeOf5
 v5:=Tryz.zeroValue5
 t9:=Tryz.underlying9
 a9:=Tryz.isAgg9
 z9:=Tryz.sizeOf9
 v9:=Tryz.zeroValue9
 t21:=Tryz.underlying21
 a21:=Tryz.isAgg21
 z21:=Tryz.sizeOf21
 v21:=Tryz.zeroValue21
 t31:=Tryz.underlying23
 a31:=Tryz.isAgg23
 z31:=Tryz.sizeOf23
 v31:=Tryz.zeroValue23
 t46:=Tryz.underlying181
 a46:=Tryz.isAgg181
 z46:=Tryz.sizeOf181
 v46:=Tryz.zeroValue181
 t51:=Tryz.underlying236
 a51:=Tryz.isAgg236
 z51:=Tryz.sizeOf236
 v51:=Tryz.zeroValue236
 t105:=Tryz.underlying224
 a105:=Tryz.isAgg224
 z105:=Tryz.sizeOf224
 v105:=Tryz.zeroValue224
 t119:=Tryz.underlying244
 a119:=Tryz.isAgg244
 z119:=Tryz.sizeOf244
 t138:=Tryz.underlying246
 a138:=Tryz.isAgg246
 z138:=Tryz.sizeOf246
 v138:=Tryz.zeroValue246
 t139:=Tryz.underlying247
 a139:=Tryz.isAgg247
 z139:=Tryz.sizeOf247
 v139:=Tryz.zeroValue247
 t146:=Tryz.underlying240
 a146:=Tryz.isAgg240
 z146:=Tryz.sizeOf240
 v146:=Tryz.zeroValue240
 g1:=by kernel_rfl
 g3:=by kernel_rfl
 g4:=by kernel_rfl}
open Go.RowKit in
theorem Tryz.strings_Split(s sep:ByteArray)(m:Int)(w:World)(hs:s.size<4294967281)(hm:w.cell? ⟨3,0,none⟩=some (.int .i64 m))(h1:1≤sep.size):
 Calls Tryz.prog 81 #[.string s,.string sep] w fun e w'=>e= .returned (.slice (some ⟨w.heap.size,0,none⟩) (Lib.countB s sep+1) (Lib.countB s sep+1))∧w'=w.alloc (.cells ((Lib.splitB sep 0 (Lib.countB s sep) s).map Value.string).toArray 9):=Any.strings_Split Tryz.lays146 (by kernel_rfl) s sep m w hs hm h1
end Go.Proofs
namespace Go.Proofs.YtcbmonndkjihkaaGreatDoor.Sx
attribute [local irreducible] OkQ Ok
set_option linter.unusedSimpArgs false
set_option linter.unusedVariables false
set_option maxRecDepth 8000
theorem splitK_one(c:UInt8):∀(n:Nat) (s:List UInt8),s.length≤n→Lib.splitK [c] 0 (Lib.count s [c]) s=splitV c s
 |n,s,hn=>by
  rcases first_at (c:=c) s with h|⟨p,t,rfl,h⟩
  ·have e:Lib.index s [c]= -1:=by rw[Lib.index_one,idx_none h]
   rw[Lib.count_miss e,split_none h]
   rfl
  ·have e:Lib.index (p++c::t) [c]=(p.length:Int):=by rw[Lib.index_one,idx_at h]
   have hd:(p++c::t).drop (p.length+[c].length)=t:=by simp
   rw[Lib.count_hit (by simp) e,hd,split_at h,Nat.add_comm,Lib.splitK,e,if_neg (by intro h;have:=beq_iff_eq.1 h;omega)]
   rw[Int.toNat_natCast,hd]
   simp only[Nat.add_zero,List.take_left']
   cases n with
   |zero=>simp at hn
   |succ n=>rw[splitK_one c n t (by simp at hn;omega)]
theorem splitB_str(s:List UInt8):(Lib.splitB ⟨[32].toArray⟩ 0 (Lib.countB ⟨s.toArray⟩ ⟨[32].toArray⟩) ⟨s.toArray⟩).map Value.string=(splitV 32 s).map fun x=>Value.string ⟨x.toArray⟩:=by
 have h:=Lib.splitB_data ⟨[32].toArray⟩ 0 (Lib.countB ⟨s.toArray⟩ ⟨[32].toArray⟩) ⟨s.toArray⟩
 have h2:(Lib.splitB ⟨[32].toArray⟩ 0 (Lib.countB ⟨s.toArray⟩ ⟨[32].toArray⟩) ⟨s.toArray⟩).map (·.data.toList)=splitV 32 s:=h.trans (splitK_one 32 s.length s (Nat.le_refl _))
 rw[←h2,List.map_map]
 rfl
theorem split_len(s:List UInt8):Lib.countB ⟨s.toArray⟩ ⟨[32].toArray⟩+1=(splitV 32 s).length:=by
 have h:=Lib.splitB_all ⟨[32].toArray⟩ (by decide) 0 _ ⟨s.toArray⟩ rfl
 rw[←h,←List.length_map (f:=Value.string),splitB_str,List.length_map]
theorem split_mem(b:UInt8):∀s:List UInt8,∀x∈splitV b s,x.length≤s.length:=by
 have key:∀n,∀s:List UInt8,s.length≤n→∀x∈splitV b s,x.length≤s.length:=by
  intro n
  induction n with
  |zero=>
   intro s hs x hx
   rw[List.eq_nil_of_length_eq_zero (by omega:s.length=0)]at hx ⊢
   simp[splitV]at hx
   rw[hx];exact Nat.le_refl _
  |succ n ih=>
   intro s hs x hx
   rcases first_at (c:=b) s with h|⟨p,t,rfl,h⟩
   ·rw[split_none h]at hx
    simp at hx;rw[hx];exact Nat.le_refl _
   ·rw[split_at h]at hx
    rcases List.mem_cons.1 hx with rfl|hx
    ·simp
    ·have:=ih t (by simp at hs;omega) x hx
     simp;omega
 exact fun s=>key s.length s (Nat.le_refl _)
def strSplit:Con:=⟨81,[(false,.str),(false,.str)],[(false,.slice 16 .str)],fun x=>x.2.1=[32]∧x.1.length≤1000000000,fun x=>(splitV 32 x.1,()),true⟩
theorem strSplit_ok:strSplit.Ok Tryz.prog where
 enters:=enters_fn Tryz.func81 rfl (by decide)
 calls S w vs x hS hg hr hwf hp i:=by
  obtain⟨(s:List UInt8),(c:List UInt8),⟨⟩⟩:=x
  obtain⟨v1,v2,rfl,h1,h2⟩:=args2 hr
  obtain⟨e1,n1⟩:=h1
  obtain⟨e2,n2⟩:=h2
  cases e1
  cases e2
  obtain⟨(hc:c=[32]),(hl:s.length≤1000000000)⟩:=hp
  subst hc
  have hcount:=split_count 32 s
  obtain⟨m,hm⟩:=hg.1.mx
  refine(Tryz.strings_Split ⟨s.toArray⟩ ⟨[32].toArray⟩ m w (by show s.length<_;omega) hm (by decide)).mono ?_
  rintro e w' ⟨rfl,rfl⟩
  rw[split_len,splitB_str]
  have hw:(splitV 32 s).length*16≤140737488355328:=by omega
  refine⟨_,rfl,(RowKit.Below.refl _ w).alloc (Nat.le_refl _) _,⟨⟨hw,fun x hx=>?_⟩,trivial⟩,fun E hE=>?_⟩
  ·have:=split_mem 32 s x hx
   show x.length≤_
   omega
  ·show Rd _ _ (.slice 16 .str) [_] (splitV 32 s)
   refine⟨hw,.inr ⟨w.heap.size,0,_,rfl,Nat.le_refl _,split_ne 32 s,fun h=>?_,?_,fun j hj=>?_⟩⟩
   ·exact absurd (hS _ (hE _ h)) (Nat.lt_irrefl _)
   ·exact Nat.lt_of_lt_of_eq (Nat.lt_succ_self _) (Array.size_push _).symm
   ·have hj':j<(splitV 32 s).length:=hj
    refine⟨[.string ⟨((splitV 32 s)[j]'hj').toArray⟩],rfl,?_,rfl,?_⟩
    ·intro k u hk
     match k,hk with
     |0,hk=>
      cases hk
      have hn:(w.alloc (.cells ((splitV 32 s).map fun x=>Value.string ⟨x.toArray⟩).toArray 9)).heap[w.heap.size]? =some (.cells ((splitV 32 s).map fun x=>Value.string ⟨x.toArray⟩).toArray 9):=World.alloc_heap_new w _
      show World.cell? _ ⟨_,0+j*1+0,none⟩=_
      unfold World.cell?
      rw[hn]
      simp[hj']
    ·have:=split_mem 32 s _ (List.getElem_mem hj');show _≤_;omega
end Go.Proofs.YtcbmonndkjihkaaGreatDoor.Sx
namespace Go.Proofs.YtcbmonndkjihkaaGreatDoor
open Go.RowKit Go.Extern.Stop Go.Stop Go.Extern
theorem Tryz.valueOf27(t:Addr)(w:World):(ReflectliteValue.unpack (.iface 46 (.pointer (some t)))).run Tryz.prog w
 = .ok (.agg #[.pointer (some ⟨9,46,none⟩),.pointer (some ⟨w.heap.size,0,none⟩),.int .u64 150]) (w.alloc (.cells #[.pointer (some t)] 46)):=by kernel_rfl
theorem Tryz.type27(a:Addr)(w:World):(ReflectliteValue.methodAny (ReflectliteValue.valueError "reflectlite.Value.Type" 0) (fun t _ _ _=>ReflectliteType.toType t) #[.agg #[.pointer (some ⟨9,46,none⟩),.pointer (some a),.int .u64 150]]).run Tryz.prog w
 = .ok (.iface 137 (.agg #[.pointer (some ⟨9,46,none⟩)])) w:=by kernel_rfl
theorem Tryz.methodKind(h:Value)(w:World):(Go.method 377 137 (.agg #[h]) "Kind").run Tryz.prog w= .ok (197,h) w:=by kernel_rfl
theorem Tryz.kind27(w:World):((ReflectliteType.abiMethod fun t=>Functor.map (fun a:Nat=>Value.int IntKind.u8 (a:Int)) (Rtype.kind t)) #[.pointer (some ⟨9,46,none⟩)]).run Tryz.prog w= .ok (.int .u8 22) w:=by kernel_rfl
theorem Tryz.kind25(w:World):((ReflectliteType.abiMethod fun t=>Functor.map (fun a:Nat=>Value.int IntKind.u8 (a:Int)) (Rtype.kind t)) #[.pointer (some ⟨9,44,none⟩)]).run Tryz.prog w= .ok (.int .u8 22) w:=by kernel_rfl
theorem rlm(z:Sem Value)(f:TypeId→Addr→Nat→Nat→Sem Value)(v:Value):
 ReflectliteValue.method z f #[v]=(do match←ReflectliteValue.parts v with|none=>z|some (t,a,fl)=>f t a fl (fl % 32)):=rfl
theorem Tryz.parts27(a:Addr)(w:World):(ReflectliteValue.parts (.agg #[.pointer (some ⟨9,46,none⟩),.pointer (some a),.int .u64 150])).run Tryz.prog w= .ok (some (46,a,150)) w:=by kernel_rfl
theorem Tryz.isNil27(a p:Addr)(W:World)(ha:W.cell? a=some (.pointer (some p))):
 (ReflectliteValue.method (ReflectliteValue.valueError "reflectlite.Value.IsNil" 0) ReflectliteValue.isNil #[.agg #[.pointer (some ⟨9,46,none⟩),.pointer (some a),.int .u64 150]]).run Tryz.prog W= .ok (.bool false) W:=by
 rw[rlm]
 simp only[Sem.run_bind,Tryz.parts27,Result.andThen]
 simp[ReflectliteValue.isNil,loadVar,isAgg,underlying,Tryz.underlying46,ha,Result.andThen]
theorem Tryz.methodElem(h:Value)(w:World):(Go.method 377 137 (.agg #[h]) "Elem").run Tryz.prog w= .ok (210,.agg #[h]) w:=by kernel_rfl
theorem Tryz.methodImplements(h:Value)(w:World):(Go.method 377 137 (.agg #[h]) "Implements").run Tryz.prog w= .ok (211,.agg #[h]) w:=by kernel_rfl
theorem Tryz.methodAssignableTo(h:Value)(w:World):(Go.method 377 137 (.agg #[h]) "AssignableTo").run Tryz.prog w= .ok (208,.agg #[h]) w:=by kernel_rfl
theorem Tryz.elem27(w:World):(ReflectliteType.method ReflectliteType.elem #[.agg #[.pointer (some ⟨9,46,none⟩)]]).run Tryz.prog w= .ok (.iface 137 (.agg #[.pointer (some ⟨9,44,none⟩)])) w:=by kernel_rfl
theorem Tryz.implements25(w:World):(ReflectliteType.relation "Implements" ReflectliteType.implements_ #[.agg #[.pointer (some ⟨9,44,none⟩)],.iface 137 (.agg #[.pointer (some ⟨9,39,none⟩)])]).run Tryz.prog w= .ok (.bool true) w:=by kernel_rfl
theorem Tryz.typeOf25(v:Value)(w:World):(ReflectliteType.typeOf #[.iface 44 v]).run Tryz.prog w= .ok (.iface 137 (.agg #[.pointer (some ⟨9,44,none⟩)])) w:=by kernel_rfl
theorem Tryz.assignable25(w:World):(ReflectliteType.relation "AssignableTo" ReflectliteType.assignableTo #[.agg #[.pointer (some ⟨9,44,none⟩)],.iface 137 (.agg #[.pointer (some ⟨9,44,none⟩)])]).run Tryz.prog w= .ok (.bool true) w:=by kernel_rfl
theorem Tryz.valueOf25(e:Addr)(w:World):(ReflectliteValue.unpack (.iface 44 (.pointer (some e)))).run Tryz.prog w
 = .ok (.agg #[.pointer (some ⟨9,44,none⟩),.pointer (some ⟨w.heap.size,0,none⟩),.int .u64 150]) (w.alloc (.cells #[.pointer (some e)] 44)):=by kernel_rfl
theorem Tryz.elemOf27(w:World):(Rtype.elem? 46).run Tryz.prog w= .ok (some 44) w:=by kernel_rfl
theorem Tryz.mk25(p:Addr)(w:World):(ReflectliteValue.mk 44 p ReflectliteValue.flagAddr).run Tryz.prog w= .ok (.agg #[.pointer (some ⟨9,44,none⟩),.pointer (some p),.int .u64 406]) w:=by kernel_rfl
theorem Tryz.elemV27(a p:Addr)(W:World)(ha:W.cell? a=some (.pointer (some p))):
 (ReflectliteValue.method (ReflectliteValue.valueError "reflectlite.Value.Elem" 0) ReflectliteValue.elem #[.agg #[.pointer (some ⟨9,46,none⟩),.pointer (some a),.int .u64 150]]).run Tryz.prog W
   = .ok (.agg #[.pointer (some ⟨9,44,none⟩),.pointer (some p),.int .u64 406]) W:=by
 rw[rlm]
 simp only[Sem.run_bind,Tryz.parts27,Result.andThen]
 simp[ReflectliteValue.elem,loadVar,isAgg,underlying,Tryz.underlying46,ha,Result.andThen,Tryz.elemOf27,Tryz.mk25]
theorem rls(v x:Value):ReflectliteValue.set #[v,x]=(do
 let(some (dst,a,fl),some (src,b,_)):=(←ReflectliteValue.parts v,←ReflectliteValue.parts x)
  |unsupported (.noEntry "extern/(internal/reflectlite.Value).Set.zeroValue")
 if fl / ReflectliteValue.flagAddr % 2==0 then unsupported (.noEntry "extern/(internal/reflectlite.Value).Set.unaddressable")
 let val ←loadVar src b
 if←Rtype.directlyAssignable dst src then storeVar dst a val
 else if←Rtype.implements dst src then
  if(←Rtype.kind src)==20 then
   match val with
   | .nilIface=>unsupported (.noEntry "extern/reflectlite: a nil value of one interface type handed on as a value of another")
   |_=>storeVar dst a val
  else storeVar dst a (.iface src val)
 else panicString ("reflectlite.Set: value of type " ++(←Rtype.spelt src)++ " is not assignable to type " ++(←Rtype.spelt dst))
 pure (.tuple #[])):=rfl
theorem Tryz.parts25a(a:Addr)(w:World):(ReflectliteValue.parts (.agg #[.pointer (some ⟨9,44,none⟩),.pointer (some a),.int .u64 406])).run Tryz.prog w= .ok (some (44,a,406)) w:=by kernel_rfl
theorem Tryz.parts25(a:Addr)(w:World):(ReflectliteValue.parts (.agg #[.pointer (some ⟨9,44,none⟩),.pointer (some a),.int .u64 150])).run Tryz.prog w= .ok (some (44,a,150)) w:=by kernel_rfl
theorem Tryz.direct25(w:World):(Rtype.directlyAssignable 44 44).run Tryz.prog w= .ok true w:=by kernel_rfl
theorem Tryz.set25(ta b e:Addr)(old:Value)(W:World)(hb:W.cell? b=some (.pointer (some e)))(ht:W.cell? ta=some old)(hf:W.frozen? ta=false):
 (ReflectliteValue.set #[.agg #[.pointer (some ⟨9,44,none⟩),.pointer (some ta),.int .u64 406],.agg #[.pointer (some ⟨9,44,none⟩),.pointer (some b),.int .u64 150]]).run Tryz.prog W
   = .ok (.tuple #[]) (W.setCell ta (.pointer (some e))):=by
 rw[rls]
 simp only[Sem.run_bind,Tryz.parts25a,Tryz.parts25,Result.andThen]
 simp[ReflectliteValue.flagAddr,loadVar,isAgg,underlying,Tryz.underlying44,hb,Result.andThen,Tryz.direct25,storeVar,Value.cells,storeCells,Addr.add]
 rw[run_store Tryz.prog W ta _ _ (by rfl)]
 simp[ht,hf]
set_option maxHeartbeats 4000000 in
theorem as_hit(e t:Addr)(old:Value)(w:World)(hg:w.cell? ⟨0,0,none⟩=some (.iface 137 (.agg #[.pointer (some ⟨9,39,none⟩)]))) (ht0:w.cell? t=some old) (hf0:w.frozen? t=false):
 Calls Tryz.prog 16 #[.iface 44 (.pointer (some e)),.iface 46 (.pointer (some t))] w fun ev w'=>ev= .returned (.bool true)∧w'=((((w.alloc (.cells #[.pointer (some t)] 46)).alloc (.cells #[.pointer (some ⟨9,46,none⟩),.pointer (some ⟨w.heap.size,0,none⟩),.int .u64 150] 96)).alloc (.cells #[.pointer (some ⟨9,46,none⟩),.pointer (some ⟨w.heap.size,0,none⟩),.int .u64 150] 96)).alloc (.cells #[.pointer (some e)] 44)).setCell t (.pointer (some e)):=by
 have h6:=@run_callFunc_extern Tryz.prog 41 _ (fun args=>ReflectliteValue.unpack (args.getD 0 (.tuple #[]))) Tryz.func41 (by kernel_rfl) (by kernel_rfl) (by kernel_rfl) (by kernel_rfl)
 have h7:=@run_callFunc_extern Tryz.prog 42 _ (ReflectliteValue.methodAny (ReflectliteValue.valueError "reflectlite.Value.Type" 0) (fun t _ _ _=>ReflectliteType.toType t)) Tryz.func42 (by kernel_rfl) (by kernel_rfl) (by kernel_rfl) (by kernel_rfl)
 have h8:=@run_callFunc_extern Tryz.prog 43 _ (ReflectliteValue.method (ReflectliteValue.valueError "reflectlite.Value.IsNil" 0) ReflectliteValue.isNil) Tryz.func43 (by kernel_rfl) (by kernel_rfl) (by kernel_rfl) (by kernel_rfl)
 have h27:=@run_callFunc_extern Tryz.prog 197 _ (ReflectliteType.abiMethod fun t=>do pure (.int .u8 (←Rtype.kind t))) Tryz.func197 (by kernel_rfl) (by kernel_rfl) (by kernel_rfl) (by kernel_rfl)
 have h37:=@run_callFunc_extern Tryz.prog 210 _ (ReflectliteType.method ReflectliteType.elem) Tryz.func210 (by kernel_rfl) (by kernel_rfl) (by kernel_rfl) (by kernel_rfl)
 have h38:=@run_callFunc_extern Tryz.prog 211 _ (ReflectliteType.relation "Implements" ReflectliteType.implements_) Tryz.func211 (by kernel_rfl) (by kernel_rfl) (by kernel_rfl) (by kernel_rfl)
 have h10:=@run_callFunc_extern Tryz.prog 69 _ ReflectliteType.typeOf Tryz.func69 (by kernel_rfl) (by kernel_rfl) (by kernel_rfl) (by kernel_rfl)
 have h35:=@run_callFunc_extern Tryz.prog 208 _ (ReflectliteType.relation "AssignableTo" ReflectliteType.assignableTo) Tryz.func208 (by kernel_rfl) (by kernel_rfl) (by kernel_rfl) (by kernel_rfl)
 have h11:=@run_callFunc_extern Tryz.prog 70 _ (ReflectliteValue.method (ReflectliteValue.valueError "reflectlite.Value.Elem" 0) ReflectliteValue.elem) Tryz.func70 (by kernel_rfl) (by kernel_rfl) (by kernel_rfl) (by kernel_rfl)
 have h12:=@run_callFunc_extern Tryz.prog 71 _ ReflectliteValue.set Tryz.func71 (by kernel_rfl) (by kernel_rfl) (by kernel_rfl) (by kernel_rfl)
 have tO:=Tryz.typeOf25
 have mA:=Tryz.methodAssignableTo
 have a25:=Tryz.assignable25
 have v25:=Tryz.valueOf25
 have f6:=Tryz.valueOf27
 have f7:=Tryz.type27
 have mK:=Tryz.methodKind
 have mE:=Tryz.methodElem
 have mI:=Tryz.methodImplements
 have k27:=Tryz.kind27
 have k25:=Tryz.kind25
 have e27:=Tryz.elem27
 have i25:=Tryz.implements25
 have n8:=Tryz.isNil27 ⟨w.heap.size,0,none⟩ t ((w.alloc (.cells #[.pointer (some t)] 46)).alloc (.cells #[.pointer (some ⟨9,46,none⟩),.pointer (some ⟨w.heap.size,0,none⟩),.int .u64 150] 96)) (by simp)
 have hlt:0<w.heap.size:=by
  rcases Nat.eq_zero_or_pos w.heap.size with h0|h
  ·simp[World.cell?,h0]at hg
  ·exact h
 have hg2:((w.alloc (.cells #[.pointer (some t)] 46)).alloc (.cells #[.pointer (some ⟨9,46,none⟩),.pointer (some ⟨w.heap.size,0,none⟩),.int .u64 150] 96)).cell? ⟨0,0,none⟩=some (.iface 137 (.agg #[.pointer (some ⟨9,39,none⟩)])):=by
  rw[World.cell?_alloc_lt _ _ ⟨0,0,none⟩ (by simp),World.cell?_alloc_lt _ _ ⟨0,0,none⟩ hlt];exact hg
 have htl:t.block<w.heap.size:=by
  rcases Nat.lt_or_ge t.block w.heap.size with h|h
  ·exact h
  ·simp[World.cell?,Array.getElem?_eq_none h]at ht0
 have el:=Tryz.elemV27 ⟨w.heap.size,0,none⟩ t (((w.alloc (.cells #[.pointer (some t)] 46)).alloc (.cells #[.pointer (some ⟨9,46,none⟩),.pointer (some ⟨w.heap.size,0,none⟩),.int .u64 150] 96)).alloc (.cells #[.pointer (some ⟨9,46,none⟩),.pointer (some ⟨w.heap.size,0,none⟩),.int .u64 150] 96)) (by rw[World.cell?_alloc_lt _ _ ⟨w.heap.size,0,none⟩ (by simp;omega)];simp)
 have st:=Tryz.set25 t ⟨w.heap.size+1+1+1,0,none⟩ e old ((((w.alloc (.cells #[.pointer (some t)] 46)).alloc (.cells #[.pointer (some ⟨9,46,none⟩),.pointer (some ⟨w.heap.size,0,none⟩),.int .u64 150] 96)).alloc (.cells #[.pointer (some ⟨9,46,none⟩),.pointer (some ⟨w.heap.size,0,none⟩),.int .u64 150] 96)).alloc (.cells #[.pointer (some e)] 44))
  (by rw[World.cell?_alloc_at _ _ _ _ (by simp)];rfl)
  (by rw[World.cell?_alloc_lt _ _ t (by simp;omega),World.cell?_alloc_lt _ _ t (by simp;omega),World.cell?_alloc_lt _ _ t (by simp;omega),World.cell?_alloc_lt _ _ t htl];exact ht0)
  (by rw[World.frozen?_alloc_old _ _ t (by simp;omega),World.frozen?_alloc_old _ _ t (by simp;omega),World.frozen?_alloc_old _ _ t (by simp;omega),World.frozen?_alloc_old _ _ t (Nat.ne_of_lt htl)];exact hf0)
 go_enter Tryz.func16,Tryz.ntmps16
 go_wp2
 refine wp_loop_rounds 1 ?_
 rw[rounds_succ]
 go_wp2
 go_ret
 exact⟨rfl,rfl⟩
end Go.Proofs.YtcbmonndkjihkaaGreatDoor
namespace Go.Proofs.YtcbmonndkjihkaaGreatDoor.Sx
attribute [local irreducible] OkQ Ok
set_option linter.unusedSimpArgs false
set_option linter.unusedVariables false
set_option maxRecDepth 100000
instance hits:Hits Tryz.prog:=⟨show HitP Tryz.prog from fun f tF tT h=>by
 simp only[asL,hitB,Bool.or_false,Bool.and_eq_true,Nat.beq_eq]at h
 obtain⟨rfl,rfl,rfl⟩:=h
 exact⟨fun e t old w hg hc hf=>(as_hit e t old w hg.et hc hf).mono fun ev w' hp=>⟨hp.1,_,_,_,_,hp.2⟩,Tryz.call16⟩⟩
end Go.Proofs.YtcbmonndkjihkaaGreatDoor.Sx
namespace Go.Proofs.YtcbmonndkjihkaaGreatDoor.Sx
set_option linter.unusedSimpArgs false
set_option linter.unusedVariables false
noncomputable section
def RetE(P:Program)(results:List ResultVar)(c:Con)(d:XCon)(hal:(tyL c.2).den=(tyL d.al).den)(x:(tyL c.2).den):St→Prop:=fun st=>(c.pre x→RetC P results c x st)∧(d.pre (cast hal x)→RetX P results d (cast hal x) st)
theorem RetE.mk{P:Program}{results:List ResultVar}{c:Con}{d:XCon}{hal:(tyL c.2).den=(tyL d.al).den}{x:(tyL c.2).den}{st:St}(h1:c.pre x→RetC P results c x st)(h2:d.pre (cast hal x)→RetX P results d (cast hal x) st):RetE P results c d hal x st:=⟨h1,h2⟩
theorem econ_r{P:Program}{c:Con}{d:XCon}(pre0:(tyL c.2).den→Prop)(hal:c.2=d.al)(hfd:d.f=c.f){fn:Func}{code:Code}
 (hf:P.funcs[c.f]? =some fn) (hb:fn.body=some code) (hn:fn.name≠ "runtime.NumGoroutine") (h1:∀x,c.pre x→pre0 x) (h2:∀x,d.pre (cast (by rw[hal]) x)→pre0 x)
 (h:∀x,(tyL c.2).wf x→pre0 x→OkQ P [] (RetE P fn.results.toList c d (by rw[hal]) x) [.c code] ⟨appSV (argSV c.2 x) (unks (fn.ntmps - c.2.length)),[],0⟩)
 (hlen:c.2.length≤fn.ntmps):c.Ok P∧d.Ok P:=by
 obtain⟨f2,al2,Z,tp,tb,pre2,F2⟩:=d
 dsimp only at hal hfd
 subst hal
 subst hfd
 exact⟨con_q hf hb hn (fun x hx hp=>OkQ.monoQ (fun _ q=>q.1 hp) (h x hx (h1 x hp))) hlen,xcon_q hf hb hn (fun x hx hp=>OkQ.monoQ (fun _ q=>q.2 hp) (h x hx (h2 x hp))) hlen⟩
end
attribute [go_sem] cast_eq
end Go.Proofs.YtcbmonndkjihkaaGreatDoor.Sx
namespace Go.Proofs.YtcbmonndkjihkaaGreatDoor.Sx
attribute [local irreducible] OkQ Ok
set_option linter.unusedSimpArgs false
set_option linter.unusedVariables false
theorem kOe0:∀c∈[ptsHex,strHasPrefix,strSplit],c.Ok Tryz.prog:=(cons_ok ptsHex_ok (cons_ok strHasPrefix_ok (cons_ok strSplit_ok nil_ok)))
theorem bIOe57:bodyI Tryz.prog 57=bodyF Tryz.f57:=by kernel_rfl
theorem nEOe57:isEsc Tryz.prog 57=false:=by kernel_rfl
open Nat renaming reduceEqDiff→Z0,reduceBEq→Z1,reduceAdd→Z2,reduceSub→Z3,reduceMul→Z4,reduceLeDiff→Z5
open Int renaming reduceEq→Z6,reduceLE→Z7,reduceLT→Z8,reduceNeg→Z9,reduceToNat→ZA,reduceAdd→ZB,reduceSub→ZC,reduceMul→ZD
set_option maxRecDepth 8000
theorem hex_lt{x:List UInt8}(h:Lib.hasPrefix x [60]=true):¬hexE x=0:=by
 obtain⟨r,rfl⟩:∃r,x=60::r:=by
  cases x with
  |nil=>cases h
  |cons c r=>
   have hc:((60:UInt8)==c&&true)=true:=h
   rw[Bool.and_true,beq_iff_eq]at hc
   exact⟨r,by rw[hc]⟩
 have hd:hexD 60<0:=by decide
 have hb:hexBad (60::r)=true:=by unfold hexBad;simp[hd]
 unfold hexE
 rw[hb]
 decide
theorem tag_pre{x:List UInt8}(h:isTag x=true):Lib.hasPrefix x [60]=true:=by
 cases x with
 |nil=>cases h
 |cons c r=>
  unfold isTag at h
  simp at h
  show((60:UInt8)==c&&true)=true
  rw[h.2.1]
  rfl
theorem made_no{s:List UInt8}(hs:s≠[]){M:List (List UInt8)}(hM:madeL s=M){j:Nat}(hj:j<M.length)(h:¬hexE (M.getD j [])=0):madeOk s=false:=by
 have ha:(M.all fun x=>decide (hexE x=0))=false:=by
  rw[List.all_eq_false]
  refine⟨M[j],List.getElem_mem hj,?_⟩
  rw[List.getD_eq_getElem?_getD,List.getElem?_eq_getElem hj]at h
  simpa using h
 unfold madeOk
 rw[hM,ha]
 simp[hs]
theorem made_yes{s:List UInt8}(hs:s≠[]){M:List (List UInt8)}(hM:madeL s=M)(hn:M≠[])(h:∀j,j<M.length→hexE (M.getD j [])=0):madeOk s=true:=by
 have ha:(M.all fun x=>decide (hexE x=0))=true:=by
  rw[List.all_eq_true]
  intro x hx
  obtain⟨j,hj,rfl⟩:=List.getElem_of_mem hx
  have:=h j hj
  rw[List.getD_eq_getElem?_getD,List.getElem?_eq_getElem hj]at this
  simpa using this
 unfold madeOk
 rw[hM,ha]
 simp[hn]
theorem made_v0{s:List UInt8}{M:List (List UInt8)}(hM:madeL s=M)(h:isTag ((splitV 32 s).headD [])=true∨1<M.length):madeV s=0:=by
 unfold madeV
 by_cases hs:s=[]
 ·rw[if_pos hs]
 ·rw[if_neg hs,hM,if_pos h]
theorem made_v1{s:List UInt8}(hs:s≠[]){M:List (List UInt8)}(hM:madeL s=M)(h:¬(isTag ((splitV 32 s).headD [])=true∨1<M.length)):madeV s=hexV (M.headD []):=by
 unfold madeV
 rw[hM,if_neg hs,if_neg h]
theorem made_nil{s:List UInt8}(hs:s≠[])(hM:madeL s=[]):madeOk s=false:=by
 unfold madeOk
 rw[hM]
 simp[hs]
theorem tag_iff{x:List UInt8}(h:Lib.hasPrefix x [60]=true):isTag x=true↔2≤x.length∧(x.getD (x.length - 1) 0).toNat=62:=by
 cases x with
 |nil=>cases h
 |cons c r=>
  have hc:((60:UInt8)==c&&true)=true:=h
  rw[Bool.and_true,beq_iff_eq]at hc
  subst hc
  have hb:∀b:UInt8,b=62↔b.toNat=62:=fun b=>⟨fun h=>by rw[h];rfl,fun h=>UInt8.toNat.inj h⟩
  unfold isTag
  rw[Bool.and_eq_true,Bool.and_eq_true,decide_eq_true_eq,decide_eq_true_eq,decide_eq_true_eq,hb]
  exact⟨fun h=>⟨h.1,h.2.2⟩,fun h=>⟨h.1,rfl,h.2⟩⟩
theorem head_mem{L:List (List UInt8)}(h:0<L.length):L.getD 0 []∈L:=by
 cases L with
 |nil=>cases h
 |cons a t=>simp
theorem wr_pred{n:Nat}(h:1≤n)(h':n≤1000000000):wr .i64 ((n:Int) - 1)=((n - 1:Nat):Int):=by
 unfold wr
 simp[IntKind.wrap,IntKind.bits,IntKind.signed]
 omega
def twI(M:List (List UInt8))(i:Nat):Int:=if i=0 then 0 else hexV (M.getD (i - 1) [])
def rdrH(l:LnD)(n1 n2:Int)(s1 s2:List UInt8)(n3 n4 tw:Int):List (Nat×Ob):=
 [(0,.box 25 [.int .i64 l.1,.int .u8 l.2.1,.str l.2.2.1,.ro (.slice 16 .str) l.2.2.2.1,.str l.2.2.2.2.1]),(1,.box 29 [.int .i64 0,.int .i32 0,.int .i32 0,.str [],.str [],.int .u8 0,.int .u8 0,.int .i32 0,.bool false]),(2,.box 69 [.ro (.slice 16 .str) l.2.2.2.1,.int .i64 l.1,.int .i32 n1,.int .i32 n2,.str s1,.str s2,.int .u8 n3,.int .u8 n4,.int .i32 tw,.bool false]),(3,.box 72 [.fb 52 [(2,0)],.fb 53 [(2,0)],.fb 54 [(2,0)],.fb 55 [(2,0)],.fb 56 [(2,0)],.fb 57 [(2,0)],.fb 58 [(2,0)]])]
set_option maxHeartbeats 4000000 in
theorem rdr_made(l:LnD)(n1 n2:Int)(s1 s2:List UInt8)(n3 n4:Int)(h0:l.2.2.2.1.length=15)(hf:((l.2.2.2.1).getD 5 []).length≤1000000000){code:Code}{rs:List ResultVar}{nt:Nat}(hb:bodyI Tryz.prog 57=some (code,rs,nt)):
 OkQ Tryz.prog [1,0,3,2] (RetI Tryz.prog rs fun v hp nx=>∃(tw:Int) (er:Int),v=resV [(false,[.int .i64 er])]∧hp=rdrH l n1 n2 s1 s2 n3 n4 tw∧nx=4∧(madeOk ((l.2.2.2.1).getD 5 [])=true→tw=madeV ((l.2.2.2.1).getD 5 [])∧er=0)∧(madeOk ((l.2.2.2.1).getD 5 [])=false→er=65))
  [.c code] ⟨appSV (pbs [(2,0)]) (unks (nt - 1)),rdrH l n1 n2 s1 s2 n3 n4 0,4⟩:=by
 cases(show some (_,_,_)=some (code,rs,nt)from bIOe57.symm.trans hb)
 clear hb
 unfold rdrH
 by_cases c5:(l.2.2.2.1).getD 5 []=[]
 ·have d5:decide ((l.2.2.2.1).getD 5 []=[])=true:=decide_eq_true c5
  refine go0 kOe0 30 ?_
  simp(maxSteps:=4000000)only[go_sem,reduceIte,reduceCtorEq,Z0,Z1,Z2,Z3,Z4,Z5,Z6,Z7,Z8,Z9,ZA,ZB,ZC,ZD,bIOe57,nEOe57,Tryz.f57,h0,d5,ptsHex,strHasPrefix,strSplit]
  (repeat' first|apply And.intro|intro _|(show staB _ _=true;kernel_rfl)|(show dynB _ _=true;kernel_rfl)|(show dynP _ _ _=true;kernel_rfl))
  all_goals try first|contradiction|omega|rfl|trivial
  exact⟨0,0,rfl,rfl,rfl,fun _=>⟨by rw[c5];rfl,rfl⟩,fun h=>by rw[c5]at h;cases h⟩
 have d5:decide ((l.2.2.2.1).getD 5 []=[])=false:=decide_eq_false c5
 have hL:0<(splitV 32 ((l.2.2.2.1).getD 5 [])).length:=List.length_pos_iff.2 (split_ne 32 _)
 have hLs:(splitV 32 ((l.2.2.2.1).getD 5 [])).length≤1000000001:=by have:=split_count 32 ((l.2.2.2.1).getD 5 []);omega
 have hh:(splitV 32 ((l.2.2.2.1).getD 5 [])).headD []=(splitV 32 ((l.2.2.2.1).getD 5 [])).getD 0 []:=by
  cases splitV 32 ((l.2.2.2.1).getD 5 [])<;>rfl
 cases ht:Lib.hasPrefix ((splitV 32 ((l.2.2.2.1).getD 5 [])).getD 0 []) [60]
 ·have dl:decide (((splitV 32 ((l.2.2.2.1).getD 5 [])).length:Int)=0)=false:=decide_eq_false (by omega)
  refine go0 kOe0 60 ?_
  simp(maxSteps:=4000000)only[go_sem,reduceIte,reduceCtorEq,Z0,Z1,Z2,Z3,Z4,Z5,Z6,Z7,Z8,Z9,ZA,ZB,ZC,ZD,bIOe57,nEOe57,Tryz.f57,h0,d5,ht,dl,ptsHex,strHasPrefix,strSplit]
  (repeat' first|apply And.intro|intro _|(show staB _ _=true;kernel_rfl)|(show dynB _ _=true;kernel_rfl)|(show dynP _ _ _=true;kernel_rfl))
  all_goals try first|contradiction|omega|rfl|trivial
  have hM:madeL ((l.2.2.2.1).getD 5 [])=splitV 32 ((l.2.2.2.1).getD 5 []):=by
   unfold madeL
   rw[hh,if_neg (fun h=>by rw[tag_pre h]at ht;cases ht)]
  have hnt:¬isTag ((splitV 32 ((l.2.2.2.1).getD 5 [])).headD [])=true:=fun h=>by rw[hh]at h;rw[tag_pre h]at ht;cases ht
  refine OkQ.loop (α:=Nat) [1,2,5,6,7,8,9,10,11,12,13,14,15,16,17,18,19,20,21,22,23,24,25,26,27,28,29,30,31,32,33,34,35,36,37,38,39,40,41,42,43,44,45,46,47,50,51,52,53,54,55,56,57,58,59,60,61,62,63,64,65,66,67,68,69,70,71,72,73,74,75,76] (fun i=>[(50,.s (.int .i64 (i:Int)))]) (fun i=>[(2,.box 69 [.ro (.slice 16 .str) l.2.2.2.1,.int .i64 l.1,.int .i32 n1,.int .i32 n2,.str s1,.str s2,.int .u8 n3,.int .u8 n4,.int .i32 (twI (splitV 32 ((l.2.2.2.1).getD 5 [])) i),.bool false])])
   (fun i=>i≤(splitV 32 ((l.2.2.2.1).getD 5 [])).length∧∀j,j<i→hexE ((splitV 32 ((l.2.2.2.1).getD 5 [])).getD j [])=0) (fun i=>(splitV 32 ((l.2.2.2.1).getD 5 [])).length - i) 0 ⟨by omega,fun j h=>by omega⟩ ?_ fun i hi=>?_
  ·simp(maxSteps:=4000000)only[go_sem,reduceIte,reduceCtorEq,Z0,Z1,Z2,Z3,Z4,Z5,Z6,Z7,Z8,Z9,ZA,ZB,ZC,ZD,ptsHex,strHasPrefix,strSplit]
   all_goals first|rfl|exact⟨rfl,rfl⟩|exact⟨⟨rfl,rfl⟩,rfl⟩|exact⟨rfl,rfl,rfl⟩|exact⟨rfl,rfl,by simp[keepP]⟩|fail
  obtain⟨hi,hall⟩:=hi
  generalize hMM:splitV 32 ((l.2.2.2.1).getD 5 [])=M at*
  rcases Nat.lt_or_ge i M.length with hlt|hge
  ·have dI:decide ((i:Int)<(M.length:Int))=true:=decide_eq_true (by omega)
   have hw:wr .i64 ((i:Int)+1)=((i+1:Nat):Int):=wr_succ (by omega)
   by_cases hx:hexE (M.getD i [])=0
   ·have dX:decide (hexE (M.getD i [])=0)=true:=decide_eq_true hx
    refine go0 kOe0 60 ?_
    simp(maxSteps:=4000000)only[go_sem,reduceIte,reduceCtorEq,Z0,Z1,Z2,Z3,Z4,Z5,Z6,Z7,Z8,Z9,ZA,ZB,ZC,ZD,dI,dX,hw,ptsHex,strHasPrefix,strSplit]
    (repeat' first|apply And.intro|intro _|(show staB _ _=true;kernel_rfl)|(show dynB _ _=true;kernel_rfl)|(show dynP _ _ _=true;kernel_rfl))
    all_goals try first|contradiction|omega|rfl|trivial
    refine⟨i+1,⟨by omega,fun j hj=>?_⟩,by omega,?_⟩
    ·by_cases hji:j=i
     ·rw[hji];exact hx
     ·exact hall j (by omega)
    ·first|exact⟨rfl,rfl⟩|exact⟨rfl,rfl,rfl⟩|(refine⟨rfl,rfl,?_⟩;simp(maxSteps:=4000000)only[go_sem,reduceIte,reduceCtorEq,Z0,Z1,Z2,Z3,Z4,Z5,Z6,Z7,Z8,Z9,ZA,ZB,ZC,ZD,ptsHex,strHasPrefix,strSplit];rfl)|fail
   ·have dX:decide (hexE (M.getD i [])=0)=false:=decide_eq_false hx
    refine go0 kOe0 60 ?_
    simp(maxSteps:=4000000)only[go_sem,reduceIte,reduceCtorEq,Z0,Z1,Z2,Z3,Z4,Z5,Z6,Z7,Z8,Z9,ZA,ZB,ZC,ZD,dI,dX,ptsHex,strHasPrefix,strSplit]
    (repeat' first|apply And.intro|intro _|(show staB _ _=true;kernel_rfl)|(show dynB _ _=true;kernel_rfl)|(show dynP _ _ _=true;kernel_rfl))
    all_goals try first|contradiction|omega|rfl|trivial
    exact⟨_,65,rfl,rfl,rfl,(fun h=>by rw[made_no c5 hM hlt hx]at h;cases h),fun _=>rfl⟩
  ·have e:i=M.length:=by omega
   subst e
   have dI:decide ((M.length:Int)<(M.length:Int))=false:=decide_eq_false (by omega)
   have hok:=made_yes c5 hM (List.length_pos_iff.1 hL) hall
   by_cases h1:1<M.length
   ·have d1:decide ((1:Int)<(M.length:Int))=true:=decide_eq_true (by omega)
    refine go0 kOe0 60 ?_
    simp(maxSteps:=4000000)only[go_sem,reduceIte,reduceCtorEq,Z0,Z1,Z2,Z3,Z4,Z5,Z6,Z7,Z8,Z9,ZA,ZB,ZC,ZD,dI,d1,ptsHex,strHasPrefix,strSplit]
    (repeat' first|apply And.intro|intro _|(show staB _ _=true;kernel_rfl)|(show dynB _ _=true;kernel_rfl)|(show dynP _ _ _=true;kernel_rfl))
    all_goals try first|contradiction|omega|rfl|trivial
    exact⟨0,0,rfl,rfl,rfl,fun _=>⟨(made_v0 hM (.inr h1)).symm,rfl⟩,fun h=>by rw[hok]at h;cases h⟩
   ·have d1:decide ((1:Int)<(M.length:Int))=false:=decide_eq_false (by omega)
    refine go0 kOe0 60 ?_
    simp(maxSteps:=4000000)only[go_sem,reduceIte,reduceCtorEq,Z0,Z1,Z2,Z3,Z4,Z5,Z6,Z7,Z8,Z9,ZA,ZB,ZC,ZD,dI,d1,ptsHex,strHasPrefix,strSplit]
    (repeat' first|apply And.intro|intro _|(show staB _ _=true;kernel_rfl)|(show dynB _ _=true;kernel_rfl)|(show dynP _ _ _=true;kernel_rfl))
    all_goals try first|contradiction|omega|rfl|trivial
    have h2:M.length=1:=by omega
    refine⟨_,0,rfl,rfl,rfl,fun _=>⟨?_,rfl⟩,fun h=>by rw[hok]at h;cases h⟩
    rw[made_v1 c5 hM (fun h=>h.elim (fun h=>hnt (by rw[←hMM];exact h)) h1),hh,h2]
    rfl
 ·have hx0:((splitV 32 (l.2.2.2.1.getD 5 [])).getD 0 []).length≤1000000000:=by
   have:=split_mem 32 (l.2.2.2.1.getD 5 []) ((splitV 32 (l.2.2.2.1.getD 5 [])).getD 0 []) (head_mem hL)
   omega
  have hx1:1≤((splitV 32 (l.2.2.2.1.getD 5 [])).getD 0 []).length:=by
   cases hz:(splitV 32 (l.2.2.2.1.getD 5 [])).getD 0 []with
   |nil=>rw[hz]at ht;cases ht
   |cons c r=>simp
  have hwl:wr .i64 ((((splitV 32 (l.2.2.2.1.getD 5 [])).getD 0 []).length:Int) - 1)=((((splitV 32 (l.2.2.2.1.getD 5 [])).getD 0 []).length - 1:Nat):Int):=wr_pred hx1 hx0
  have hti:=tag_iff ht
  by_cases hg:isTag ((splitV 32 (l.2.2.2.1.getD 5 [])).getD 0 [])=true
  ·obtain⟨q1,q2⟩:=hti.1 hg
   have dA:decide ((((splitV 32 (l.2.2.2.1.getD 5 [])).getD 0 []).length:Int)<2)=false:=decide_eq_false (by omega)
   have dB:decide (((((splitV 32 (l.2.2.2.1.getD 5 [])).getD 0 []).getD (((splitV 32 (l.2.2.2.1.getD 5 [])).getD 0 []).length - 1) 0).toNat:Int)=62)=true:=decide_eq_true (by omega)
   have hM:madeL (l.2.2.2.1.getD 5 [])=(splitV 32 (l.2.2.2.1.getD 5 [])).tail:=by
    unfold madeL
    rw[hh,if_pos hg]
   have hgh:isTag ((splitV 32 (l.2.2.2.1.getD 5 [])).headD [])=true:=by rw[hh];exact hg
   have eT:List.take ((splitV 32 (l.2.2.2.1.getD 5 [])).length - 1) (List.drop 1 (splitV 32 (l.2.2.2.1.getD 5 [])))=(splitV 32 (l.2.2.2.1.getD 5 [])).tail:=by
    rw[List.drop_one,List.take_of_length_le (by simp)]
   by_cases hN:(splitV 32 (l.2.2.2.1.getD 5 [])).tail=[]
   ·have dN:decide (((splitV 32 (l.2.2.2.1.getD 5 [])).tail.length:Int)=0)=true:=decide_eq_true (by rw[hN];rfl)
    refine go0 kOe0 90 ?_
    simp(maxSteps:=4000000)only[go_sem,reduceIte,reduceCtorEq,Z0,Z1,Z2,Z3,Z4,Z5,Z6,Z7,Z8,Z9,ZA,ZB,ZC,ZD,bIOe57,nEOe57,Tryz.f57,h0,d5,ht,dA,dB,hwl,Int.toNat_natCast,eT,dN,ptsHex,strHasPrefix,strSplit]
    (repeat' first|apply And.intro|intro _|(show staB _ _=true;kernel_rfl)|(show dynB _ _=true;kernel_rfl)|(show dynP _ _ _=true;kernel_rfl))
    all_goals try first|contradiction|omega|rfl|trivial
    refine⟨_,65,rfl,rfl,rfl,(fun h=>?_),fun _=>rfl⟩
    rw[made_nil c5 (hM.trans hN)]at h
    cases h
   have hL3:(splitV 32 (l.2.2.2.1.getD 5 [])).tail.length≤1000000001:=by rw[List.length_tail];omega
   have hL2:0<(splitV 32 (l.2.2.2.1.getD 5 [])).tail.length:=List.length_pos_iff.2 hN
   have dN:decide (((splitV 32 (l.2.2.2.1.getD 5 [])).tail.length:Int)=0)=false:=decide_eq_false (by omega)
   refine go0 kOe0 90 ?_
   simp(maxSteps:=4000000)only[go_sem,reduceIte,reduceCtorEq,Z0,Z1,Z2,Z3,Z4,Z5,Z6,Z7,Z8,Z9,ZA,ZB,ZC,ZD,bIOe57,nEOe57,Tryz.f57,h0,d5,ht,dA,dB,hwl,Int.toNat_natCast,eT,dN,ptsHex,strHasPrefix,strSplit]
   (repeat' first|apply And.intro|intro _|(show staB _ _=true;kernel_rfl)|(show dynB _ _=true;kernel_rfl)|(show dynP _ _ _=true;kernel_rfl))
   all_goals try first|contradiction|omega|rfl|trivial
   refine OkQ.loop (α:=Nat) [1,2,5,6,7,8,9,10,11,12,13,14,15,16,17,18,19,20,21,22,23,24,25,26,27,28,29,30,31,32,33,34,35,36,37,38,39,40,41,42,43,44,45,46,47,50,51,52,53,54,55,56,57,58,59,60,61,62,63,64,65,66,67,68,69,70,71,72,73,74,75,76] (fun i=>[(50,.s (.int .i64 (i:Int)))]) (fun i=>[(2,.box 69 [.ro (.slice 16 .str) l.2.2.2.1,.int .i64 l.1,.int .i32 n1,.int .i32 n2,.str s1,.str s2,.int .u8 n3,.int .u8 n4,.int .i32 (twI (splitV 32 ((l.2.2.2.1).getD 5 [])).tail i),.bool false])])
    (fun i=>i≤(splitV 32 ((l.2.2.2.1).getD 5 [])).tail.length∧∀j,j<i→hexE ((splitV 32 ((l.2.2.2.1).getD 5 [])).tail.getD j [])=0) (fun i=>(splitV 32 ((l.2.2.2.1).getD 5 [])).tail.length - i) 0 ⟨by omega,fun j h=>by omega⟩ ?_ fun i hi=>?_
   ·simp(maxSteps:=4000000)only[go_sem,reduceIte,reduceCtorEq,Z0,Z1,Z2,Z3,Z4,Z5,Z6,Z7,Z8,Z9,ZA,ZB,ZC,ZD,ptsHex,strHasPrefix,strSplit]
    all_goals first|rfl|exact⟨rfl,rfl⟩|exact⟨⟨rfl,rfl⟩,rfl⟩|exact⟨rfl,rfl,rfl⟩|exact⟨rfl,rfl,by simp[keepP]⟩|fail
   obtain⟨hi,hall⟩:=hi
   generalize hMM:(splitV 32 ((l.2.2.2.1).getD 5 [])).tail=M at*
   rcases Nat.lt_or_ge i M.length with hlt|hge
   ·have dI:decide ((i:Int)<(M.length:Int))=true:=decide_eq_true (by omega)
    have hw:wr .i64 ((i:Int)+1)=((i+1:Nat):Int):=wr_succ (by omega)
    by_cases hx:hexE (M.getD i [])=0
    ·have dX:decide (hexE (M.getD i [])=0)=true:=decide_eq_true hx
     refine go0 kOe0 60 ?_
     simp(maxSteps:=4000000)only[go_sem,reduceIte,reduceCtorEq,Z0,Z1,Z2,Z3,Z4,Z5,Z6,Z7,Z8,Z9,ZA,ZB,ZC,ZD,dI,dX,hw,ptsHex,strHasPrefix,strSplit]
     (repeat' first|apply And.intro|intro _|(show staB _ _=true;kernel_rfl)|(show dynB _ _=true;kernel_rfl)|(show dynP _ _ _=true;kernel_rfl))
     all_goals try first|contradiction|omega|rfl|trivial
     refine⟨i+1,⟨by omega,fun j hj=>?_⟩,by omega,?_⟩
     ·by_cases hji:j=i
      ·rw[hji];exact hx
      ·exact hall j (by omega)
     ·first|exact⟨rfl,rfl⟩|exact⟨rfl,rfl,rfl⟩|(refine⟨rfl,rfl,?_⟩;simp(maxSteps:=4000000)only[go_sem,reduceIte,reduceCtorEq,Z0,Z1,Z2,Z3,Z4,Z5,Z6,Z7,Z8,Z9,ZA,ZB,ZC,ZD,ptsHex,strHasPrefix,strSplit];rfl)|fail
    ·have dX:decide (hexE (M.getD i [])=0)=false:=decide_eq_false hx
     refine go0 kOe0 60 ?_
     simp(maxSteps:=4000000)only[go_sem,reduceIte,reduceCtorEq,Z0,Z1,Z2,Z3,Z4,Z5,Z6,Z7,Z8,Z9,ZA,ZB,ZC,ZD,dI,dX,ptsHex,strHasPrefix,strSplit]
     (repeat' first|apply And.intro|intro _|(show staB _ _=true;kernel_rfl)|(show dynB _ _=true;kernel_rfl)|(show dynP _ _ _=true;kernel_rfl))
     all_goals try first|contradiction|omega|rfl|trivial
     exact⟨_,65,rfl,rfl,rfl,(fun h=>by rw[made_no c5 hM hlt hx]at h;cases h),fun _=>rfl⟩
   ·have e:i=M.length:=by omega
    subst e
    have dI:decide ((M.length:Int)<(M.length:Int))=false:=decide_eq_false (by omega)
    have hok:=made_yes c5 hM (List.length_pos_iff.1 hL2) hall
    refine go0 kOe0 60 ?_
    simp(maxSteps:=4000000)only[go_sem,reduceIte,reduceCtorEq,Z0,Z1,Z2,Z3,Z4,Z5,Z6,Z7,Z8,Z9,ZA,ZB,ZC,ZD,dI,ptsHex,strHasPrefix,strSplit]
    (repeat' first|apply And.intro|intro _|(show staB _ _=true;kernel_rfl)|(show dynB _ _=true;kernel_rfl)|(show dynP _ _ _=true;kernel_rfl))
    all_goals try first|contradiction|omega|rfl|trivial
    exact⟨0,0,rfl,rfl,rfl,fun _=>⟨(made_v0 hM (.inl hgh)).symm,rfl⟩,fun h=>by rw[hok]at h;cases h⟩
  ·have hM:madeL (l.2.2.2.1.getD 5 [])=splitV 32 (l.2.2.2.1.getD 5 []):=by
    unfold madeL
    rw[hh,if_neg hg]
   have hno:=made_no c5 hM hL (hex_lt ht)
   have hg':¬(2≤((splitV 32 (l.2.2.2.1.getD 5 [])).getD 0 []).length∧(((splitV 32 (l.2.2.2.1.getD 5 [])).getD 0 []).getD (((splitV 32 (l.2.2.2.1.getD 5 [])).getD 0 []).length - 1) 0).toNat=62):=fun h=>hg (hti.2 h)
   refine go0 kOe0 90 ?_
   simp(maxSteps:=4000000)only[go_sem,reduceIte,reduceCtorEq,Z0,Z1,Z2,Z3,Z4,Z5,Z6,Z7,Z8,Z9,ZA,ZB,ZC,ZD,bIOe57,nEOe57,Tryz.f57,h0,d5,ht,hwl,Int.toNat_natCast,ptsHex,strHasPrefix,strSplit]
   (repeat' first|apply And.intro|intro _|(show staB _ _=true;kernel_rfl)|(show dynB _ _=true;kernel_rfl)|(show dynP _ _ _=true;kernel_rfl))
   all_goals try first|contradiction|omega|rfl|trivial
   all_goals try exact⟨_,65,rfl,rfl,rfl,(fun h=>by rw[hno]at h;cases h),fun _=>rfl⟩
   all_goals fail
end Go.Proofs.YtcbmonndkjihkaaGreatDoor.Sx
namespace Go.Proofs.YtcbmonndkjihkaaGreatDoor.Sx
attribute [local irreducible] OkQ Ok
set_option linter.unusedSimpArgs false
set_option linter.unusedVariables false
theorem kOd0:∀c∈[ptsHex,utfCount,wrdClass,wrdShort,strHasPrefix,strItoa6,strAtoi,strSplit],c.Ok Tryz.prog:=(cons_ok ptsHex_ok (cons_ok utfCount_ok (cons_ok wrdClass_ok (cons_ok wrdShort_ok (cons_ok strHasPrefix_ok (cons_ok strItoa6_ok (cons_ok strAtoi_ok (cons_ok strSplit_ok nil_ok))))))))
theorem kOd1:∀c∈[ptsHex,utfCount,wrdClass,wrdShort,strHasPrefix,strItoa6,strSplit],c.Ok Tryz.prog:=(cons_ok ptsHex_ok (cons_ok utfCount_ok (cons_ok wrdClass_ok (cons_ok wrdShort_ok (cons_ok strHasPrefix_ok (cons_ok strItoa6_ok (cons_ok strSplit_ok nil_ok)))))))
theorem bIOd54:bodyI Tryz.prog 54=bodyF Tryz.f54:=by kernel_rfl
theorem nEOd54:isEsc Tryz.prog 54=false:=by kernel_rfl
theorem bIOd56:bodyI Tryz.prog 56=bodyF Tryz.f56:=by kernel_rfl
theorem nEOd56:isEsc Tryz.prog 56=false:=by kernel_rfl
theorem bIOd55:bodyI Tryz.prog 55=bodyF Tryz.f55:=by kernel_rfl
theorem nEOd55:isEsc Tryz.prog 55=false:=by kernel_rfl
theorem bIOd58:bodyI Tryz.prog 58=bodyF Tryz.f58:=by kernel_rfl
theorem nEOd58:isEsc Tryz.prog 58=false:=by kernel_rfl
theorem bIOd53:bodyI Tryz.prog 53=bodyF Tryz.f53:=by kernel_rfl
theorem nEOd53:isEsc Tryz.prog 53=false:=by kernel_rfl
theorem bIOd52:bodyI Tryz.prog 52=bodyF Tryz.f52:=by kernel_rfl
theorem nEOd52:isEsc Tryz.prog 52=false:=by kernel_rfl
theorem bIOd28:bodyI Tryz.prog 28=bodyF Tryz.f28:=by kernel_rfl
theorem nEOd28:isEsc Tryz.prog 28=false:=by kernel_rfl
open Nat renaming reduceEqDiff→Z0,reduceBEq→Z1,reduceAdd→Z2,reduceSub→Z3,reduceMul→Z4,reduceLeDiff→Z5
open Int renaming reduceEq→Z6,reduceLE→Z7,reduceLT→Z8,reduceNeg→Z9,reduceToNat→ZA,reduceAdd→ZB,reduceSub→ZC,reduceMul→ZD
set_option maxRecDepth 8000
def rowsScan:Con:=⟨11,[(true,tLine)],[(true,tRow),(false,.int .i64)],fun x=>∀k,(fld x.1 k).length≤1000000000,fun x=>(rowV x.1,rowE x.1,()),false⟩
theorem cat_iff(f:List UInt8):catOk f=true↔(f.length=2∧65≤(f.getD 0 0).toNat∧(f.getD 0 0).toNat≤90∧97≤(f.getD 1 0).toNat∧(f.getD 1 0).toNat≤122):=by
 match f with
 |[]=>simp[catOk]
 |[_]=>simp[catOk]
 |[a,b]=>simp[catOk]
 |_::_::_::_=>simp[catOk]
theorem cls_short{s:List UInt8}(h:clsOf s≠0):clsE s=0∧(nmV (clsV s)).1=s∧shortE (clsV s)=0∧clsOf s=clsV s:=by
 unfold clsOf at h ⊢
 split at h
 ·rename_i hh
  have hs:s≠[]:=by
   rintro rfl
   exact h (by decide+kernel)
  exact⟨hh.1,hh.2,by unfold shortE;rw[if_neg (by rw[hh.2];exact hs)],if_pos hh⟩
 ·exact(h rfl).elim
theorem hexE_40{s:List UInt8}(h:¬hexE s=0):(40:Int)=hexE s:=by
 unfold hexE at*
 cases h2:hexBad s
 ·rw[h2]at h;exact(h rfl).elim
 ·rfl
theorem elSt:elT Tryz.prog 70=some 72:=by kernel_rfl
set_option maxHeartbeats 4000000 in
theorem rowsScan_ok:rowsScan.Ok Tryz.prog:=by
 refine con_q Tryz.func11 rfl (by decide) (fun x hx hp=>run_ok (Cs:=[ptsHex,utfCount,wrdClass,wrdShort,strHasPrefix,strItoa6,strAtoi,strSplit]) (stp:=[]) (inl:=[28]) (unr:=true) (cons_ok ptsHex_ok (cons_ok utfCount_ok (cons_ok wrdClass_ok (cons_ok wrdShort_ok (cons_ok strHasPrefix_ok (cons_ok strItoa6_ok (cons_ok strAtoi_ok (cons_ok strSplit_ok nil_ok)))))))) 0 _ _ _ _ ?_) (by decide)
 obtain⟨l,⟨⟩⟩:=x
 have hf:∀k,(fld l k).length≤1000000000:=hp
 clear hx hp
 by_cases h2:l.2.1=2
 ·have d2:decide (l.2.1=2)=true:=decide_eq_true h2
  have e:rowE l=33:=by rw[rowE,if_pos h2]
  have v:rowV l=rowZ:=by rw[rowV,e];rfl
  refine go0 kOd0 30 ?_
  simp(maxSteps:=4000000)only[go_sem,reduceIte,reduceCtorEq,Z0,Z1,Z2,Z3,Z4,Z5,Z6,Z7,Z8,Z9,ZA,ZB,ZC,ZD,Tryz.f11,rowsScan,d2,e,v,rowZ,ptsHex,utfCount,wrdClass,wrdShort,strHasPrefix,strItoa6,strAtoi,strSplit]
  (repeat' first|apply And.intro|intro _)
  all_goals first|contradiction|omega|fail
 have d2:decide (l.2.1=2)=false:=decide_eq_false h2
 by_cases h1:l.2.1=1
 case neg=>
  have d1:decide (l.2.1=1)=false:=decide_eq_false h1
  have e:rowE l=60:=by rw[rowE,if_neg h2,if_pos (.inl h1)]
  have v:rowV l=rowZ:=by rw[rowV,e];rfl
  refine go0 kOd0 60 ?_
  simp(maxSteps:=4000000)only[go_sem,reduceIte,reduceCtorEq,Z0,Z1,Z2,Z3,Z4,Z5,Z6,Z7,Z8,Z9,ZA,ZB,ZC,ZD,Tryz.f11,rowsScan,d2,d1,e,v,rowZ,ptsHex,utfCount,wrdClass,wrdShort,strHasPrefix,strItoa6,strAtoi,strSplit]
  (repeat' first|apply And.intro|intro _)
  all_goals first|contradiction|omega|fail
 have d1:decide (l.2.1=1)=true:=decide_eq_true h1
 by_cases h0:l.2.2.2.1.length=15
 case neg=>
  have d0:decide ((l.2.2.2.1.length:Int)=15)=false:=decide_eq_false (by omega)
  have e:rowE l=60:=by rw[rowE,if_neg h2,if_pos (.inr h0)]
  have v:rowV l=rowZ:=by rw[rowV,e];rfl
  refine go0 kOd0 60 ?_
  simp(maxSteps:=4000000)only[go_sem,reduceIte,reduceCtorEq,Z0,Z1,Z2,Z3,Z4,Z5,Z6,Z7,Z8,Z9,ZA,ZB,ZC,ZD,Tryz.f11,rowsScan,d2,d1,d0,e,v,rowZ,ptsHex,utfCount,wrdClass,wrdShort,strHasPrefix,strItoa6,strAtoi,strSplit]
  (repeat' first|apply And.intro|intro _)
  all_goals first|contradiction|omega|fail
 have d0:decide ((l.2.2.2.1.length:Int)=15)=true:=decide_eq_true (by omega)
 refine run_ok (Cs:=[ptsHex,utfCount,wrdClass,wrdShort,strHasPrefix,strItoa6,strAtoi,strSplit]) (stp:=[]) (inl:=[28]) (unr:=true) (cons_ok ptsHex_ok (cons_ok utfCount_ok (cons_ok wrdClass_ok (cons_ok wrdShort_ok (cons_ok strHasPrefix_ok (cons_ok strItoa6_ok (cons_ok strAtoi_ok (cons_ok strSplit_ok nil_ok)))))))) 60 _ _ _ _ ?_
 simp(maxSteps:=4000000)only[go_sem,reduceIte,reduceCtorEq,Z0,Z1,Z2,Z3,Z4,Z5,Z6,Z7,Z8,Z9,ZA,ZB,ZC,ZD,Tryz.f11,rowsScan,d2,d1,d0,bIOd28,nEOd28,Tryz.f28,ptsHex,utfCount,wrdClass,wrdShort,strHasPrefix,strItoa6,strAtoi,strSplit]
 refine OkQ.opX rfl rfl ?_
 refine run_ok (Cs:=[ptsHex,utfCount,wrdClass,wrdShort,strHasPrefix,strItoa6,strAtoi,strSplit]) (stp:=[]) (inl:=[28]) (unr:=true) (cons_ok ptsHex_ok (cons_ok utfCount_ok (cons_ok wrdClass_ok (cons_ok wrdShort_ok (cons_ok strHasPrefix_ok (cons_ok strItoa6_ok (cons_ok strAtoi_ok (cons_ok strSplit_ok nil_ok)))))))) 60 _ _ _ _ ?_
 simp(maxSteps:=4000000)only[go_sem,reduceIte,reduceCtorEq,Z0,Z1,Z2,Z3,Z4,Z5,Z6,Z7,Z8,Z9,ZA,ZB,ZC,ZD,ptsHex,utfCount,wrdClass,wrdShort,strHasPrefix,strItoa6,strAtoi,strSplit]
 refine OkQ.opX rfl rfl ?_
 refine run_ok (Cs:=[ptsHex,utfCount,wrdClass,wrdShort,strHasPrefix,strItoa6,strAtoi,strSplit]) (stp:=[]) (inl:=[28]) (unr:=true) (cons_ok ptsHex_ok (cons_ok utfCount_ok (cons_ok wrdClass_ok (cons_ok wrdShort_ok (cons_ok strHasPrefix_ok (cons_ok strItoa6_ok (cons_ok strAtoi_ok (cons_ok strSplit_ok nil_ok)))))))) 60 _ _ _ _ ?_
 simp(maxSteps:=4000000)only[go_sem,reduceIte,reduceCtorEq,Z0,Z1,Z2,Z3,Z4,Z5,Z6,Z7,Z8,Z9,ZA,ZB,ZC,ZD,ptsHex,utfCount,wrdClass,wrdShort,strHasPrefix,strItoa6,strAtoi,strSplit]
 refine OkQ.opX rfl rfl ?_
 refine run_ok (Cs:=[ptsHex,utfCount,wrdClass,wrdShort,strHasPrefix,strItoa6,strAtoi,strSplit]) (stp:=[]) (inl:=[28]) (unr:=true) (cons_ok ptsHex_ok (cons_ok utfCount_ok (cons_ok wrdClass_ok (cons_ok wrdShort_ok (cons_ok strHasPrefix_ok (cons_ok strItoa6_ok (cons_ok strAtoi_ok (cons_ok strSplit_ok nil_ok)))))))) 60 _ _ _ _ ?_
 simp(maxSteps:=4000000)only[go_sem,reduceIte,reduceCtorEq,Z0,Z1,Z2,Z3,Z4,Z5,Z6,Z7,Z8,Z9,ZA,ZB,ZC,ZD,ptsHex,utfCount,wrdClass,wrdShort,strHasPrefix,strItoa6,strAtoi,strSplit]
 refine OkQ.opX rfl rfl ?_
 refine run_ok (Cs:=[ptsHex,utfCount,wrdClass,wrdShort,strHasPrefix,strItoa6,strAtoi,strSplit]) (stp:=[]) (inl:=[28]) (unr:=true) (cons_ok ptsHex_ok (cons_ok utfCount_ok (cons_ok wrdClass_ok (cons_ok wrdShort_ok (cons_ok strHasPrefix_ok (cons_ok strItoa6_ok (cons_ok strAtoi_ok (cons_ok strSplit_ok nil_ok)))))))) 60 _ _ _ _ ?_
 simp(maxSteps:=4000000)only[go_sem,reduceIte,reduceCtorEq,Z0,Z1,Z2,Z3,Z4,Z5,Z6,Z7,Z8,Z9,ZA,ZB,ZC,ZD,ptsHex,utfCount,wrdClass,wrdShort,strHasPrefix,strItoa6,strAtoi,strSplit]
 refine OkQ.opX rfl rfl ?_
 refine run_ok (Cs:=[ptsHex,utfCount,wrdClass,wrdShort,strHasPrefix,strItoa6,strAtoi,strSplit]) (stp:=[]) (inl:=[28]) (unr:=true) (cons_ok ptsHex_ok (cons_ok utfCount_ok (cons_ok wrdClass_ok (cons_ok wrdShort_ok (cons_ok strHasPrefix_ok (cons_ok strItoa6_ok (cons_ok strAtoi_ok (cons_ok strSplit_ok nil_ok)))))))) 60 _ _ _ _ ?_
 simp(maxSteps:=4000000)only[go_sem,reduceIte,reduceCtorEq,Z0,Z1,Z2,Z3,Z4,Z5,Z6,Z7,Z8,Z9,ZA,ZB,ZC,ZD,ptsHex,utfCount,wrdClass,wrdShort,strHasPrefix,strItoa6,strAtoi,strSplit]
 refine OkQ.opX rfl rfl ?_
 refine run_ok (Cs:=[ptsHex,utfCount,wrdClass,wrdShort,strHasPrefix,strItoa6,strAtoi,strSplit]) (stp:=[]) (inl:=[28]) (unr:=true) (cons_ok ptsHex_ok (cons_ok utfCount_ok (cons_ok wrdClass_ok (cons_ok wrdShort_ok (cons_ok strHasPrefix_ok (cons_ok strItoa6_ok (cons_ok strAtoi_ok (cons_ok strSplit_ok nil_ok)))))))) 60 _ _ _ _ ?_
 simp(maxSteps:=4000000)only[go_sem,reduceIte,reduceCtorEq,Z0,Z1,Z2,Z3,Z4,Z5,Z6,Z7,Z8,Z9,ZA,ZB,ZC,ZD,ptsHex,utfCount,wrdClass,wrdShort,strHasPrefix,strItoa6,strAtoi,strSplit]
 refine OkQ.opX rfl rfl ?_
 refine run_ok (Cs:=[ptsHex,utfCount,wrdClass,wrdShort,strHasPrefix,strItoa6,strAtoi,strSplit]) (stp:=[]) (inl:=[28]) (unr:=true) (cons_ok ptsHex_ok (cons_ok utfCount_ok (cons_ok wrdClass_ok (cons_ok wrdShort_ok (cons_ok strHasPrefix_ok (cons_ok strItoa6_ok (cons_ok strAtoi_ok (cons_ok strSplit_ok nil_ok)))))))) 60 _ _ _ _ ?_
 simp(maxSteps:=4000000)only[go_sem,reduceIte,reduceCtorEq,Z0,Z1,Z2,Z3,Z4,Z5,Z6,Z7,Z8,Z9,ZA,ZB,ZC,ZD,ptsHex,utfCount,wrdClass,wrdShort,strHasPrefix,strItoa6,strAtoi,strSplit]
 refine OkQ.opX rfl rfl ?_
 refine run_ok (Cs:=[ptsHex,utfCount,wrdClass,wrdShort,strHasPrefix,strItoa6,strAtoi,strSplit]) (stp:=[]) (inl:=[28]) (unr:=true) (cons_ok ptsHex_ok (cons_ok utfCount_ok (cons_ok wrdClass_ok (cons_ok wrdShort_ok (cons_ok strHasPrefix_ok (cons_ok strItoa6_ok (cons_ok strAtoi_ok (cons_ok strSplit_ok nil_ok)))))))) 60 _ _ _ _ ?_
 have hB:¬(l.2.1≠1∨l.2.2.2.1.length≠15):=fun h=>h.elim (fun h=>h h1) (fun h=>h h0)
 have w1:wr .i64 1=1:=by decide+kernel
 have w2:wr .i64 2=2:=by decide+kernel
 have w3:wr .i64 3=3:=by decide+kernel
 have w4:wr .i64 4=4:=by decide+kernel
 have w5:wr .i64 5=5:=by decide+kernel
 have w6:wr .i64 6=6:=by decide+kernel
 have w7:wr .i64 7=7:=by decide+kernel
 have g0:decide ((0:Int)<((7:Nat):Int))=true:=by decide
 have g1:decide ((1:Int)<((7:Nat):Int))=true:=by decide
 have g2:decide ((2:Int)<((7:Nat):Int))=true:=by decide
 have g3:decide ((3:Int)<((7:Nat):Int))=true:=by decide
 have g4:decide ((4:Int)<((7:Nat):Int))=true:=by decide
 have g5:decide ((5:Int)<((7:Nat):Int))=true:=by decide
 have g6:decide ((6:Int)<((7:Nat):Int))=true:=by decide
 have g7:decide ((7:Int)<((7:Nat):Int))=false:=by decide
 simp(maxSteps:=4000000)only[go_sem,reduceIte,reduceCtorEq,Z0,Z1,Z2,Z3,Z4,Z5,Z6,Z7,Z8,Z9,ZA,ZB,ZC,ZD,elSt,g0,ptsHex,utfCount,wrdClass,wrdShort,strHasPrefix,strItoa6,strAtoi,strSplit]
 refine go0 kOd0 20 ?_
 simp(maxSteps:=4000000)only[go_sem,reduceIte,reduceCtorEq,Z0,Z1,Z2,Z3,Z4,Z5,Z6,Z7,Z8,Z9,ZA,ZB,ZC,ZD,Tryz.f11,g0,ptsHex,utfCount,wrdClass,wrdShort,strHasPrefix,strItoa6,strAtoi,strSplit]
 refine OkQ.opX (u:=⟨.s (.pb 3 0),[],4⟩) (by kernel_rfl) rfl ?_
 refine go0 kOd0 20 ?_
 simp(maxSteps:=4000000)only[go_sem,reduceIte,reduceCtorEq,Z0,Z1,Z2,Z3,Z4,Z5,Z6,Z7,Z8,Z9,ZA,ZB,ZC,ZD,Tryz.f11,g0,ptsHex,utfCount,wrdClass,wrdShort,strHasPrefix,strItoa6,strAtoi,strSplit]
 refine OkQ.callFb rfl rfl rfl (by trivial) rfl (bIOd52.trans rfl) (by decide) ?_
 simp(maxSteps:=4000000)only[go_sem,reduceIte,reduceCtorEq,Z0,Z1,Z2,Z3,Z4,Z5,Z6,Z7,Z8,Z9,ZA,ZB,ZC,ZD,bIOd52,nEOd52,Tryz.f52,ptsHex,utfCount,wrdClass,wrdShort,strHasPrefix,strItoa6,strAtoi,strSplit]
 refine go0 kOd0 90 ?_
 simp(maxSteps:=4000000)only[go_sem,reduceIte,reduceCtorEq,Z0,Z1,Z2,Z3,Z4,Z5,Z6,Z7,Z8,Z9,ZA,ZB,ZC,ZD,h0,ptsHex,utfCount,wrdClass,wrdShort,strHasPrefix,strItoa6,strAtoi,strSplit]
 (repeat' first|apply And.intro|intro _)
 all_goals try first|contradiction|omega|rfl|trivial
 dsimp only
 by_cases c0:hexE (fld l 0)=0
 case neg=>
  have d0':decide (hexE (List.getD l.2.2.2.1 0 [])=0)=false:=decide_eq_false c0
  have e:rowE l=hexE (List.getD l.2.2.2.1 0 []):=by rw[rowE,if_neg h2,if_neg hB,if_pos c0,hexE_40 c0];rfl
  have v:rowV l=rowZ:=by rw[rowV,if_neg (by rw[e];exact c0)]
  refine go0 kOd0 90 ?_
  simp(maxSteps:=4000000)only[go_sem,reduceIte,reduceCtorEq,Z0,Z1,Z2,Z3,Z4,Z5,Z6,Z7,Z8,Z9,ZA,ZB,ZC,ZD,rowsScan,d0',e,v,rowZ,ptsHex,utfCount,wrdClass,wrdShort,strHasPrefix,strItoa6,strAtoi,strSplit]
  (repeat' first|apply And.intro|intro _)
  all_goals first|contradiction|omega|rfl|fail
 have d0':decide (hexE (List.getD l.2.2.2.1 0 [])=0)=true:=decide_eq_true c0
 refine go0 kOd0 10 ?_
 simp(maxSteps:=4000000)only[go_sem,reduceIte,reduceCtorEq,Z0,Z1,Z2,Z3,Z4,Z5,Z6,Z7,Z8,Z9,ZA,ZB,ZC,ZD,d0',c0,g0,ptsHex,utfCount,wrdClass,wrdShort,strHasPrefix,strItoa6,strAtoi,strSplit]
 (repeat' first|apply And.intro|intro _)
 all_goals try first|contradiction|omega
 refine run_ok (Cs:=[ptsHex,utfCount,wrdClass,wrdShort,strHasPrefix,strItoa6,strAtoi,strSplit]) (stp:=[]) (inl:=[]) (unr:=true) (cons_ok ptsHex_ok (cons_ok utfCount_ok (cons_ok wrdClass_ok (cons_ok wrdShort_ok (cons_ok strHasPrefix_ok (cons_ok strItoa6_ok (cons_ok strAtoi_ok (cons_ok strSplit_ok nil_ok)))))))) 14 _ _ _ _ ?_
 simp(maxSteps:=4000000)only[go_sem,reduceIte,reduceCtorEq,Z0,Z1,Z2,Z3,Z4,Z5,Z6,Z7,Z8,Z9,ZA,ZB,ZC,ZD,w1,g1,ptsHex,utfCount,wrdClass,wrdShort,strHasPrefix,strItoa6,strAtoi,strSplit]
 refine go0 kOd0 20 ?_
 simp(maxSteps:=4000000)only[go_sem,reduceIte,reduceCtorEq,Z0,Z1,Z2,Z3,Z4,Z5,Z6,Z7,Z8,Z9,ZA,ZB,ZC,ZD,Tryz.f11,g1,ptsHex,utfCount,wrdClass,wrdShort,strHasPrefix,strItoa6,strAtoi,strSplit]
 refine OkQ.opX (u:=⟨.s (.pb 3 1),[],4⟩) (by kernel_rfl) rfl ?_
 refine go0 kOd0 20 ?_
 simp(maxSteps:=4000000)only[go_sem,reduceIte,reduceCtorEq,Z0,Z1,Z2,Z3,Z4,Z5,Z6,Z7,Z8,Z9,ZA,ZB,ZC,ZD,Tryz.f11,g1,ptsHex,utfCount,wrdClass,wrdShort,strHasPrefix,strItoa6,strAtoi,strSplit]
 refine OkQ.callFb rfl rfl rfl (by trivial) rfl (bIOd53.trans rfl) (by decide) ?_
 simp(maxSteps:=4000000)only[go_sem,reduceIte,reduceCtorEq,Z0,Z1,Z2,Z3,Z4,Z5,Z6,Z7,Z8,Z9,ZA,ZB,ZC,ZD,bIOd53,nEOd53,Tryz.f53,ptsHex,utfCount,wrdClass,wrdShort,strHasPrefix,strItoa6,strAtoi,strSplit]
 by_cases c1:cntV (fld l 1)<1∨256<cntV (fld l 1)
 case pos=>
  have e:rowE l=61:=by rw[rowE,if_neg h2,if_neg hB,if_neg (by rw[c0];simp),if_pos c1]
  have v:rowV l=rowZ:=by rw[rowV,if_neg (by rw[e];decide)]
  have c1':cntV (List.getD l.2.2.2.1 1 [])<1∨256<cntV (List.getD l.2.2.2.1 1 []):=c1
  refine go0 kOd0 60 ?_
  simp(maxSteps:=4000000)only[go_sem,reduceIte,reduceCtorEq,Z0,Z1,Z2,Z3,Z4,Z5,Z6,Z7,Z8,Z9,ZA,ZB,ZC,ZD,h0,ptsHex,utfCount,wrdClass,wrdShort,strHasPrefix,strItoa6,strAtoi,strSplit]
  (repeat' first|apply And.intro|intro _)
  all_goals try first|contradiction|omega|rfl|trivial
  dsimp only
  refine go0 kOd0 60 ?_
  simp(maxSteps:=4000000)only[go_sem,reduceIte,reduceCtorEq,Z0,Z1,Z2,Z3,Z4,Z5,Z6,Z7,Z8,Z9,ZA,ZB,ZC,ZD,rowsScan,e,v,rowZ,ptsHex,utfCount,wrdClass,wrdShort,strHasPrefix,strItoa6,strAtoi,strSplit]
  (repeat' first|apply And.intro|intro _)
  all_goals first|contradiction|omega|rfl|fail
 have c1':¬(cntV (List.getD l.2.2.2.1 1 [])<1)∧¬(256<cntV (List.getD l.2.2.2.1 1 [])):=⟨fun h=>c1 (.inl h),fun h=>c1 (.inr h)⟩
 have d1':decide ((cntV (List.getD l.2.2.2.1 1 []):Int)<1)=false:=decide_eq_false (by omega)
 have d1'':decide ((256:Int)<(cntV (List.getD l.2.2.2.1 1 []):Int))=false:=decide_eq_false (by omega)
 refine go0 kOd0 60 ?_
 simp(maxSteps:=4000000)only[go_sem,reduceIte,reduceCtorEq,Z0,Z1,Z2,Z3,Z4,Z5,Z6,Z7,Z8,Z9,ZA,ZB,ZC,ZD,h0,d1',d1'',ptsHex,utfCount,wrdClass,wrdShort,strHasPrefix,strItoa6,strAtoi,strSplit]
 (repeat' first|apply And.intro|intro _)
 all_goals try first|contradiction|omega|rfl|trivial
 dsimp only
 refine go0 kOd0 10 ?_
 simp(maxSteps:=4000000)only[go_sem,reduceIte,reduceCtorEq,Z0,Z1,Z2,Z3,Z4,Z5,Z6,Z7,Z8,Z9,ZA,ZB,ZC,ZD,g1,ptsHex,utfCount,wrdClass,wrdShort,strHasPrefix,strItoa6,strAtoi,strSplit]
 (repeat' first|apply And.intro|intro _)
 all_goals try first|contradiction|omega
 refine run_ok (Cs:=[ptsHex,utfCount,wrdClass,wrdShort,strHasPrefix,strItoa6,strAtoi,strSplit]) (stp:=[]) (inl:=[]) (unr:=true) (cons_ok ptsHex_ok (cons_ok utfCount_ok (cons_ok wrdClass_ok (cons_ok wrdShort_ok (cons_ok strHasPrefix_ok (cons_ok strItoa6_ok (cons_ok strAtoi_ok (cons_ok strSplit_ok nil_ok)))))))) 14 _ _ _ _ ?_
 simp(maxSteps:=4000000)only[go_sem,reduceIte,reduceCtorEq,Z0,Z1,Z2,Z3,Z4,Z5,Z6,Z7,Z8,Z9,ZA,ZB,ZC,ZD,w2,g2,ptsHex,utfCount,wrdClass,wrdShort,strHasPrefix,strItoa6,strAtoi,strSplit]
 refine go0 kOd0 20 ?_
 simp(maxSteps:=4000000)only[go_sem,reduceIte,reduceCtorEq,Z0,Z1,Z2,Z3,Z4,Z5,Z6,Z7,Z8,Z9,ZA,ZB,ZC,ZD,Tryz.f11,g2,ptsHex,utfCount,wrdClass,wrdShort,strHasPrefix,strItoa6,strAtoi,strSplit]
 refine OkQ.opX (u:=⟨.s (.pb 3 2),[],4⟩) (by kernel_rfl) rfl ?_
 refine go0 kOd0 20 ?_
 simp(maxSteps:=4000000)only[go_sem,reduceIte,reduceCtorEq,Z0,Z1,Z2,Z3,Z4,Z5,Z6,Z7,Z8,Z9,ZA,ZB,ZC,ZD,Tryz.f11,g2,ptsHex,utfCount,wrdClass,wrdShort,strHasPrefix,strItoa6,strAtoi,strSplit]
 refine OkQ.callFb rfl rfl rfl (by trivial) rfl (bIOd54.trans rfl) (by decide) ?_
 simp(maxSteps:=4000000)only[go_sem,reduceIte,reduceCtorEq,Z0,Z1,Z2,Z3,Z4,Z5,Z6,Z7,Z8,Z9,ZA,ZB,ZC,ZD,bIOd54,nEOd54,Tryz.f54,ptsHex,utfCount,wrdClass,wrdShort,strHasPrefix,strItoa6,strAtoi,strSplit]
 by_cases c2:catOk (fld l 2)=true
 case neg=>
  have c2b:catOk (fld l 2)=false:=by simpa using c2
  have e:rowE l=63:=by rw[rowE,if_neg h2,if_neg hB,if_neg (by rw[c0];simp),if_neg c1,if_pos c2b]
  have v:rowV l=rowZ:=by rw[rowV,if_neg (by rw[e];decide)]
  have c2':¬((List.getD l.2.2.2.1 2 []).length=2∧65≤((List.getD l.2.2.2.1 2 []).getD 0 0).toNat∧((List.getD l.2.2.2.1 2 []).getD 0 0).toNat≤90∧97≤((List.getD l.2.2.2.1 2 []).getD 1 0).toNat∧((List.getD l.2.2.2.1 2 []).getD 1 0).toNat≤122):=fun h=>c2 ((cat_iff _).2 h)
  refine go0 kOd0 60 ?_
  simp(maxSteps:=4000000)only[go_sem,reduceIte,reduceCtorEq,Z0,Z1,Z2,Z3,Z4,Z5,Z6,Z7,Z8,Z9,ZA,ZB,ZC,ZD,h0,ptsHex,utfCount,wrdClass,wrdShort,strHasPrefix,strItoa6,strAtoi,strSplit]
  (repeat' first|apply And.intro|intro _)
  all_goals try first|contradiction|omega|rfl|trivial
  dsimp only
  refine go0 kOd0 60 ?_
  simp(maxSteps:=4000000)only[go_sem,reduceIte,reduceCtorEq,Z0,Z1,Z2,Z3,Z4,Z5,Z6,Z7,Z8,Z9,ZA,ZB,ZC,ZD,rowsScan,e,v,rowZ,ptsHex,utfCount,wrdClass,wrdShort,strHasPrefix,strItoa6,strAtoi,strSplit]
  (repeat' first|apply And.intro|intro _)
  all_goals first|contradiction|omega|rfl|fail
 obtain⟨k0,k1,k2,k3,k4⟩:((List.getD l.2.2.2.1 2 []).length=2∧65≤((List.getD l.2.2.2.1 2 []).getD 0 0).toNat∧((List.getD l.2.2.2.1 2 []).getD 0 0).toNat≤90∧97≤((List.getD l.2.2.2.1 2 []).getD 1 0).toNat∧((List.getD l.2.2.2.1 2 []).getD 1 0).toNat≤122):=(cat_iff _).1 c2
 have c2n:¬catOk (fld l 2)=false:=by rw[c2];simp
 have e0:decide (((List.getD l.2.2.2.1 2 []).length:Int)=2)=true:=decide_eq_true (by omega)
 have e1:decide ((((List.getD l.2.2.2.1 2 []).getD 0 0).toNat:Int)<65)=false:=decide_eq_false (by omega)
 have e2:decide ((90:Int)<(((List.getD l.2.2.2.1 2 []).getD 0 0).toNat:Int))=false:=decide_eq_false (by omega)
 have e3:decide ((((List.getD l.2.2.2.1 2 []).getD 1 0).toNat:Int)<97)=false:=decide_eq_false (by omega)
 have e4:decide ((122:Int)<(((List.getD l.2.2.2.1 2 []).getD 1 0).toNat:Int))=false:=decide_eq_false (by omega)
 refine go0 kOd0 60 ?_
 simp(maxSteps:=4000000)only[go_sem,reduceIte,reduceCtorEq,Z0,Z1,Z2,Z3,Z4,Z5,Z6,Z7,Z8,Z9,ZA,ZB,ZC,ZD,h0,e0,e1,e2,e3,e4,ptsHex,utfCount,wrdClass,wrdShort,strHasPrefix,strItoa6,strAtoi,strSplit]
 (repeat' first|apply And.intro|intro _)
 all_goals try first|contradiction|omega|rfl|trivial
 dsimp only
 refine go0 kOd0 10 ?_
 simp(maxSteps:=4000000)only[go_sem,reduceIte,reduceCtorEq,Z0,Z1,Z2,Z3,Z4,Z5,Z6,Z7,Z8,Z9,ZA,ZB,ZC,ZD,g2,ptsHex,utfCount,wrdClass,wrdShort,strHasPrefix,strItoa6,strAtoi,strSplit]
 (repeat' first|apply And.intro|intro _)
 all_goals try first|contradiction|omega
 refine run_ok (Cs:=[ptsHex,utfCount,wrdClass,wrdShort,strHasPrefix,strItoa6,strAtoi,strSplit]) (stp:=[]) (inl:=[]) (unr:=true) (cons_ok ptsHex_ok (cons_ok utfCount_ok (cons_ok wrdClass_ok (cons_ok wrdShort_ok (cons_ok strHasPrefix_ok (cons_ok strItoa6_ok (cons_ok strAtoi_ok (cons_ok strSplit_ok nil_ok)))))))) 14 _ _ _ _ ?_
 simp(maxSteps:=4000000)only[go_sem,reduceIte,reduceCtorEq,Z0,Z1,Z2,Z3,Z4,Z5,Z6,Z7,Z8,Z9,ZA,ZB,ZC,ZD,w3,g3,ptsHex,utfCount,wrdClass,wrdShort,strHasPrefix,strItoa6,strAtoi,strSplit]
 refine go0 kOd0 20 ?_
 simp(maxSteps:=4000000)only[go_sem,reduceIte,reduceCtorEq,Z0,Z1,Z2,Z3,Z4,Z5,Z6,Z7,Z8,Z9,ZA,ZB,ZC,ZD,Tryz.f11,g3,ptsHex,utfCount,wrdClass,wrdShort,strHasPrefix,strItoa6,strAtoi,strSplit]
 refine OkQ.opX (u:=⟨.s (.pb 3 3),[],4⟩) (by kernel_rfl) rfl ?_
 refine go0 kOd0 20 ?_
 simp(maxSteps:=4000000)only[go_sem,reduceIte,reduceCtorEq,Z0,Z1,Z2,Z3,Z4,Z5,Z6,Z7,Z8,Z9,ZA,ZB,ZC,ZD,Tryz.f11,g3,ptsHex,utfCount,wrdClass,wrdShort,strHasPrefix,strItoa6,strAtoi,strSplit]
 refine OkQ.callFb rfl rfl rfl (by trivial) rfl (bIOd55.trans rfl) (by decide) ?_
 simp(maxSteps:=4000000)only[go_sem,reduceIte,reduceCtorEq,Z0,Z1,Z2,Z3,Z4,Z5,Z6,Z7,Z8,Z9,ZA,ZB,ZC,ZD,bIOd55,nEOd55,Tryz.f55,ptsHex,utfCount,wrdClass,wrdShort,strHasPrefix,strItoa6,strAtoi,strSplit]
 by_cases c3:combV (fld l 3)<0
 case pos=>
  have e:rowE l=64:=by rw[rowE,if_neg h2,if_neg hB,if_neg (by rw[c0];simp),if_neg c1,if_neg c2n,if_pos c3]
  have v:rowV l=rowZ:=by rw[rowV,if_neg (by rw[e];decide)]
  by_cases ha:atoiOk (List.getD l.2.2.2.1 3 [])=true
  ·obtain⟨n,hn⟩:∃n,Lib.atoiAll (List.getD l.2.2.2.1 3 [])= .ok n:=by
    unfold atoiOk at ha
    split at ha
    ·rename_i n hn;exact⟨n,hn⟩
    ·cases ha
   have a2:atoiV (List.getD l.2.2.2.1 3 [])=n:=by unfold atoiV;rw[hn]
   have hq:¬(0≤n∧n≤254∧Lib.itoa n=List.getD l.2.2.2.1 3 []):=fun h=>by
    have:=((comb_code hn).1 h).2
    have hc:combV (List.getD l.2.2.2.1 3 [])<0:=c3
    omega
   by_cases q1:n<0
   ·have d31:decide (n<0)=true:=decide_eq_true q1
    refine go0 kOd0 60 ?_
    simp(maxSteps:=4000000)only[go_sem,reduceIte,reduceCtorEq,Z0,Z1,Z2,Z3,Z4,Z5,Z6,Z7,Z8,Z9,ZA,ZB,ZC,ZD,h0,ha,a2,d31,ptsHex,utfCount,wrdClass,wrdShort,strHasPrefix,strItoa6,strAtoi,strSplit]
    (repeat' first|apply And.intro|intro _)
    all_goals try first|contradiction|omega|rfl|trivial
    dsimp only
    refine go0 kOd0 60 ?_
    simp(maxSteps:=4000000)only[go_sem,reduceIte,reduceCtorEq,Z0,Z1,Z2,Z3,Z4,Z5,Z6,Z7,Z8,Z9,ZA,ZB,ZC,ZD,rowsScan,e,v,rowZ,ptsHex,utfCount,wrdClass,wrdShort,strHasPrefix,strItoa6,strAtoi,strSplit]
    (repeat' first|apply And.intro|intro _)
    all_goals first|contradiction|omega|rfl|fail
   have d31:decide (n<0)=false:=decide_eq_false q1
   by_cases q2:254<n
   ·have d32:decide (254<n)=true:=decide_eq_true q2
    refine go0 kOd0 60 ?_
    simp(maxSteps:=4000000)only[go_sem,reduceIte,reduceCtorEq,Z0,Z1,Z2,Z3,Z4,Z5,Z6,Z7,Z8,Z9,ZA,ZB,ZC,ZD,h0,ha,a2,d31,d32,ptsHex,utfCount,wrdClass,wrdShort,strHasPrefix,strItoa6,strAtoi,strSplit]
    (repeat' first|apply And.intro|intro _)
    all_goals try first|contradiction|omega|rfl|trivial
    dsimp only
    refine go0 kOd0 60 ?_
    simp(maxSteps:=4000000)only[go_sem,reduceIte,reduceCtorEq,Z0,Z1,Z2,Z3,Z4,Z5,Z6,Z7,Z8,Z9,ZA,ZB,ZC,ZD,rowsScan,e,v,rowZ,ptsHex,utfCount,wrdClass,wrdShort,strHasPrefix,strItoa6,strAtoi,strSplit]
    (repeat' first|apply And.intro|intro _)
    all_goals first|contradiction|omega|rfl|fail
   have d32:decide (254<n)=false:=decide_eq_false q2
   have d33:decide (Lib.itoa n=List.getD l.2.2.2.1 3 [])=false:=decide_eq_false fun h=>hq ⟨by omega,by omega,h⟩
   refine go0 kOd0 60 ?_
   simp(maxSteps:=4000000)only[go_sem,reduceIte,reduceCtorEq,Z0,Z1,Z2,Z3,Z4,Z5,Z6,Z7,Z8,Z9,ZA,ZB,ZC,ZD,h0,ha,a2,d31,d32,d33,ptsHex,utfCount,wrdClass,wrdShort,strHasPrefix,strItoa6,strAtoi,strSplit]
   (repeat' first|apply And.intro|intro _)
   all_goals try first|contradiction|omega|rfl|trivial
   dsimp only
   refine go0 kOd0 60 ?_
   simp(maxSteps:=4000000)only[go_sem,reduceIte,reduceCtorEq,Z0,Z1,Z2,Z3,Z4,Z5,Z6,Z7,Z8,Z9,ZA,ZB,ZC,ZD,rowsScan,e,v,rowZ,ptsHex,utfCount,wrdClass,wrdShort,strHasPrefix,strItoa6,strAtoi,strSplit]
   (repeat' first|apply And.intro|intro _)
   all_goals first|contradiction|omega|rfl|fail
  ·have ha':atoiOk (List.getD l.2.2.2.1 3 [])=false:=by simpa using ha
   refine go0 kOd1 20 ?_
   simp(maxSteps:=4000000)only[go_sem,reduceIte,reduceCtorEq,Z0,Z1,Z2,Z3,Z4,Z5,Z6,Z7,Z8,Z9,ZA,ZB,ZC,ZD,h0,ptsHex,utfCount,wrdClass,wrdShort,strHasPrefix,strItoa6,strSplit]
   (repeat' first|apply And.intro|intro _)
   all_goals try first|contradiction|omega|rfl|trivial
   refine OkQ.ocall strAtoiX_ok (List.getD l.2.2.2.1 3 [],()) rfl (.inl rfl) rfl (by trivial) rfl ha' fun t u=>?_
   refine go0 kOd0 60 ?_
   simp(maxSteps:=4000000)only[go_sem,reduceIte,reduceCtorEq,Z0,Z1,Z2,Z3,Z4,Z5,Z6,Z7,Z8,Z9,ZA,ZB,ZC,ZD,strAtoiX,ptsHex,utfCount,wrdClass,wrdShort,strHasPrefix,strItoa6,strAtoi,strSplit]
   (repeat' first|apply And.intro|intro _)
   all_goals try first|contradiction|omega|rfl|trivial
   dsimp only
   refine go0 kOd0 60 ?_
   simp(maxSteps:=4000000)only[go_sem,reduceIte,reduceCtorEq,Z0,Z1,Z2,Z3,Z4,Z5,Z6,Z7,Z8,Z9,ZA,ZB,ZC,ZD,rowsScan,e,v,rowZ,ptsHex,utfCount,wrdClass,wrdShort,strHasPrefix,strItoa6,strAtoi,strSplit]
   (repeat' first|apply And.intro|intro _)
   all_goals first|contradiction|omega|rfl|fail
 have c3':0≤combV (List.getD l.2.2.2.1 3 []):=by have h:¬combV (List.getD l.2.2.2.1 3 [])<0:=c3;omega
 have a0:=comb_atoi c3'
 have a1:atoiOk (List.getD l.2.2.2.1 3 [])=true:=by unfold atoiOk;rw[a0]
 have a2:atoiV (List.getD l.2.2.2.1 3 [])=combV (List.getD l.2.2.2.1 3 []):=by unfold atoiV;rw[a0]
 obtain⟨a3,a4,a5⟩:=(comb_code a0).2 ⟨rfl,c3'⟩
 have d31:decide (combV (List.getD l.2.2.2.1 3 [])<0)=false:=decide_eq_false (by omega)
 have d32:decide (254<combV (List.getD l.2.2.2.1 3 []))=false:=decide_eq_false (by omega)
 have d33:decide (Lib.itoa (combV (List.getD l.2.2.2.1 3 []))=List.getD l.2.2.2.1 3 [])=true:=decide_eq_true a5
 have w8:wr .u8 (combV (List.getD l.2.2.2.1 3 []))=combV (List.getD l.2.2.2.1 3 []):=wr_u8 (by omega) (by omega)
 refine go0 kOd0 80 ?_
 simp(maxSteps:=4000000)only[go_sem,reduceIte,reduceCtorEq,Z0,Z1,Z2,Z3,Z4,Z5,Z6,Z7,Z8,Z9,ZA,ZB,ZC,ZD,h0,a1,a2,d31,d32,d33,w8,ptsHex,utfCount,wrdClass,wrdShort,strHasPrefix,strItoa6,strAtoi,strSplit]
 (repeat' first|apply And.intro|intro _)
 all_goals try first|contradiction|omega|rfl|trivial
 dsimp only
 refine go0 kOd0 10 ?_
 simp(maxSteps:=4000000)only[go_sem,reduceIte,reduceCtorEq,Z0,Z1,Z2,Z3,Z4,Z5,Z6,Z7,Z8,Z9,ZA,ZB,ZC,ZD,g3,ptsHex,utfCount,wrdClass,wrdShort,strHasPrefix,strItoa6,strAtoi,strSplit]
 (repeat' first|apply And.intro|intro _)
 all_goals try first|contradiction|omega
 have l4:(List.getD l.2.2.2.1 4 []).length≤1000000000:=hf 4
 refine run_ok (Cs:=[ptsHex,utfCount,wrdClass,wrdShort,strHasPrefix,strItoa6,strAtoi,strSplit]) (stp:=[]) (inl:=[]) (unr:=true) (cons_ok ptsHex_ok (cons_ok utfCount_ok (cons_ok wrdClass_ok (cons_ok wrdShort_ok (cons_ok strHasPrefix_ok (cons_ok strItoa6_ok (cons_ok strAtoi_ok (cons_ok strSplit_ok nil_ok)))))))) 14 _ _ _ _ ?_
 simp(maxSteps:=4000000)only[go_sem,reduceIte,reduceCtorEq,Z0,Z1,Z2,Z3,Z4,Z5,Z6,Z7,Z8,Z9,ZA,ZB,ZC,ZD,w4,g4,ptsHex,utfCount,wrdClass,wrdShort,strHasPrefix,strItoa6,strAtoi,strSplit]
 refine go0 kOd0 20 ?_
 simp(maxSteps:=4000000)only[go_sem,reduceIte,reduceCtorEq,Z0,Z1,Z2,Z3,Z4,Z5,Z6,Z7,Z8,Z9,ZA,ZB,ZC,ZD,Tryz.f11,g4,ptsHex,utfCount,wrdClass,wrdShort,strHasPrefix,strItoa6,strAtoi,strSplit]
 refine OkQ.opX (u:=⟨.s (.pb 3 4),[],4⟩) (by kernel_rfl) rfl ?_
 refine go0 kOd0 20 ?_
 simp(maxSteps:=4000000)only[go_sem,reduceIte,reduceCtorEq,Z0,Z1,Z2,Z3,Z4,Z5,Z6,Z7,Z8,Z9,ZA,ZB,ZC,ZD,Tryz.f11,g4,ptsHex,utfCount,wrdClass,wrdShort,strHasPrefix,strItoa6,strAtoi,strSplit]
 refine OkQ.callFb rfl rfl rfl (by trivial) rfl (bIOd56.trans rfl) (by decide) ?_
 simp(maxSteps:=4000000)only[go_sem,reduceIte,reduceCtorEq,Z0,Z1,Z2,Z3,Z4,Z5,Z6,Z7,Z8,Z9,ZA,ZB,ZC,ZD,bIOd56,nEOd56,Tryz.f56,ptsHex,utfCount,wrdClass,wrdShort,strHasPrefix,strItoa6,strAtoi,strSplit]
 by_cases c4:clsOf (fld l 4)=0
 case pos=>
  have e:rowE l=50:=by rw[rowE,if_neg h2,if_neg hB,if_neg (by rw[c0];simp),if_neg c1,if_neg c2n,if_neg c3,if_pos c4]
  have v:rowV l=rowZ:=by rw[rowV,if_neg (by rw[e];decide)]
  by_cases r1:clsE (List.getD l.2.2.2.1 4 [])=0
  ·have r2:¬(nmV (clsV (List.getD l.2.2.2.1 4 []))).1=List.getD l.2.2.2.1 4 []:=fun h=>by
    have h1:clsOf (List.getD l.2.2.2.1 4 [])=0:=c4
    unfold clsOf at h1
    rw[if_pos ⟨r1,h⟩]at h1
    unfold clsE at r1
    rw[if_pos h1]at r1
    cases r1
   have d41:decide (clsE (List.getD l.2.2.2.1 4 [])=0)=true:=decide_eq_true r1
   have d42:decide ((nmV (clsV (List.getD l.2.2.2.1 4 []))).1=List.getD l.2.2.2.1 4 [])=false:=decide_eq_false r2
   refine go0 kOd0 60 ?_
   simp(maxSteps:=4000000)only[go_sem,reduceIte,reduceCtorEq,Z0,Z1,Z2,Z3,Z4,Z5,Z6,Z7,Z8,Z9,ZA,ZB,ZC,ZD,h0,d41,d42,ptsHex,utfCount,wrdClass,wrdShort,strHasPrefix,strItoa6,strAtoi,strSplit]
   (repeat' first|apply And.intro|intro _)
   all_goals try first|contradiction|omega|rfl|trivial
   dsimp only
   refine go0 kOd0 60 ?_
   simp(maxSteps:=4000000)only[go_sem,reduceIte,reduceCtorEq,Z0,Z1,Z2,Z3,Z4,Z5,Z6,Z7,Z8,Z9,ZA,ZB,ZC,ZD,rowsScan,e,v,rowZ,ptsHex,utfCount,wrdClass,wrdShort,strHasPrefix,strItoa6,strAtoi,strSplit]
   (repeat' first|apply And.intro|intro _)
   all_goals first|contradiction|omega|rfl|fail
  ·have r3:clsE (List.getD l.2.2.2.1 4 [])=50:=by
    unfold clsE at r1 ⊢
    split at r1
    ·rename_i h;rw[if_pos h]
    ·exact(r1 rfl).elim
   have d41:decide (clsE (List.getD l.2.2.2.1 4 [])=0)=false:=decide_eq_false r1
   refine go0 kOd0 60 ?_
   simp(maxSteps:=4000000)only[go_sem,reduceIte,reduceCtorEq,Z0,Z1,Z2,Z3,Z4,Z5,Z6,Z7,Z8,Z9,ZA,ZB,ZC,ZD,h0,d41,r3,ptsHex,utfCount,wrdClass,wrdShort,strHasPrefix,strItoa6,strAtoi,strSplit]
   (repeat' first|apply And.intro|intro _)
   all_goals try first|contradiction|omega|rfl|trivial
   dsimp only
   refine go0 kOd0 60 ?_
   simp(maxSteps:=4000000)only[go_sem,reduceIte,reduceCtorEq,Z0,Z1,Z2,Z3,Z4,Z5,Z6,Z7,Z8,Z9,ZA,ZB,ZC,ZD,rowsScan,e,v,rowZ,ptsHex,utfCount,wrdClass,wrdShort,strHasPrefix,strItoa6,strAtoi,strSplit]
   (repeat' first|apply And.intro|intro _)
   all_goals first|contradiction|omega|rfl|fail
 obtain⟨r1,r2,r3,r4⟩:=cls_short (s:=List.getD l.2.2.2.1 4 []) c4
 have d41:decide (clsE (List.getD l.2.2.2.1 4 [])=0)=true:=decide_eq_true r1
 have d42:decide ((nmV (clsV (List.getD l.2.2.2.1 4 []))).1=List.getD l.2.2.2.1 4 [])=true:=decide_eq_true r2
 have d43:decide (shortE (clsV (List.getD l.2.2.2.1 4 []))=0)=true:=decide_eq_true r3
 refine go0 kOd0 140 ?_
 simp(maxSteps:=4000000)only[go_sem,reduceIte,reduceCtorEq,Z0,Z1,Z2,Z3,Z4,Z5,Z6,Z7,Z8,Z9,ZA,ZB,ZC,ZD,h0,d41,d42,d43,ptsHex,utfCount,wrdClass,wrdShort,strHasPrefix,strItoa6,strAtoi,strSplit]
 (repeat' first|apply And.intro|intro _)
 all_goals try first|contradiction|omega|rfl|trivial
 dsimp only
 refine go0 kOd0 10 ?_
 simp(maxSteps:=4000000)only[go_sem,reduceIte,reduceCtorEq,Z0,Z1,Z2,Z3,Z4,Z5,Z6,Z7,Z8,Z9,ZA,ZB,ZC,ZD,g4,ptsHex,utfCount,wrdClass,wrdShort,strHasPrefix,strItoa6,strAtoi,strSplit]
 (repeat' first|apply And.intro|intro _)
 all_goals try first|contradiction|omega
 refine run_ok (Cs:=[ptsHex,utfCount,wrdClass,wrdShort,strHasPrefix,strItoa6,strAtoi,strSplit]) (stp:=[]) (inl:=[]) (unr:=true) (cons_ok ptsHex_ok (cons_ok utfCount_ok (cons_ok wrdClass_ok (cons_ok wrdShort_ok (cons_ok strHasPrefix_ok (cons_ok strItoa6_ok (cons_ok strAtoi_ok (cons_ok strSplit_ok nil_ok)))))))) 14 _ _ _ _ ?_
 simp(maxSteps:=4000000)only[go_sem,reduceIte,reduceCtorEq,Z0,Z1,Z2,Z3,Z4,Z5,Z6,Z7,Z8,Z9,ZA,ZB,ZC,ZD,w5,g5,ptsHex,utfCount,wrdClass,wrdShort,strHasPrefix,strItoa6,strAtoi,strSplit]
 refine go0 kOd0 20 ?_
 simp(maxSteps:=4000000)only[go_sem,reduceIte,reduceCtorEq,Z0,Z1,Z2,Z3,Z4,Z5,Z6,Z7,Z8,Z9,ZA,ZB,ZC,ZD,Tryz.f11,g5,ptsHex,utfCount,wrdClass,wrdShort,strHasPrefix,strItoa6,strAtoi,strSplit]
 refine OkQ.opX (u:=⟨.s (.pb 3 5),[],4⟩) (by kernel_rfl) rfl ?_
 refine go0 kOd0 20 ?_
 simp(maxSteps:=4000000)only[go_sem,reduceIte,reduceCtorEq,Z0,Z1,Z2,Z3,Z4,Z5,Z6,Z7,Z8,Z9,ZA,ZB,ZC,ZD,Tryz.f11,g5,ptsHex,utfCount,wrdClass,wrdShort,strHasPrefix,strItoa6,strAtoi,strSplit]
 refine OkQ.callFb rfl rfl rfl (by trivial) rfl (bIOe57.trans rfl) (by decide) ?_
 refine OkQ.monoQ (fun st h=>RetI.mono (R:=fun v hp nx=>∃(tw:Int) (er:Int),v=resV [(false,[.int .i64 er])]∧hp=rdrH l (hexV (List.getD l.2.2.2.1 0 [])) (hexV (List.getD l.2.2.2.1 0 [])) (List.getD l.2.2.2.1 1 []) (List.getD l.2.2.2.1 2 []) (combV (List.getD l.2.2.2.1 3 [])) (clsV (List.getD l.2.2.2.1 4 [])) tw∧nx=4∧(madeOk (fld l 5)=true→tw=madeV (fld l 5)∧er=0)∧(madeOk (fld l 5)=false→er=65)) (fun v hp nx hv=>?_) h) ?_
 rotate_left
 ·exact rdr_made l _ _ _ _ _ _ h0 (hf 5) (bIOe57.trans rfl)
 obtain⟨tw,er,rfl,rfl,rfl,m1,m2⟩:=hv
 unfold rdrH
 by_cases c5:madeOk (fld l 5)=false
 case pos=>
  have e:rowE l=65:=by rw[rowE,if_neg h2,if_neg hB,if_neg (by rw[c0];simp),if_neg c1,if_neg c2n,if_neg c3,if_neg c4,if_pos c5]
  have v:rowV l=rowZ:=by rw[rowV,if_neg (by rw[e];decide)]
  have m3:=m2 c5
  subst m3
  refine go0 kOd0 60 ?_
  simp(maxSteps:=4000000)only[go_sem,reduceIte,reduceCtorEq,Z0,Z1,Z2,Z3,Z4,Z5,Z6,Z7,Z8,Z9,ZA,ZB,ZC,ZD,rowsScan,e,v,rowZ,ptsHex,utfCount,wrdClass,wrdShort,strHasPrefix,strItoa6,strAtoi,strSplit]
  (repeat' first|apply And.intro|intro _)
  all_goals first|contradiction|omega|rfl|fail
 obtain⟨m3,m4⟩:=m1 (by simpa using c5)
 subst m3
 subst m4
 refine go0 kOd0 10 ?_
 simp(maxSteps:=4000000)only[go_sem,reduceIte,reduceCtorEq,Z0,Z1,Z2,Z3,Z4,Z5,Z6,Z7,Z8,Z9,ZA,ZB,ZC,ZD,g5,ptsHex,utfCount,wrdClass,wrdShort,strHasPrefix,strItoa6,strAtoi,strSplit]
 (repeat' first|apply And.intro|intro _)
 all_goals try first|contradiction|omega
 refine run_ok (Cs:=[ptsHex,utfCount,wrdClass,wrdShort,strHasPrefix,strItoa6,strAtoi,strSplit]) (stp:=[]) (inl:=[]) (unr:=true) (cons_ok ptsHex_ok (cons_ok utfCount_ok (cons_ok wrdClass_ok (cons_ok wrdShort_ok (cons_ok strHasPrefix_ok (cons_ok strItoa6_ok (cons_ok strAtoi_ok (cons_ok strSplit_ok nil_ok)))))))) 14 _ _ _ _ ?_
 simp(maxSteps:=4000000)only[go_sem,reduceIte,reduceCtorEq,Z0,Z1,Z2,Z3,Z4,Z5,Z6,Z7,Z8,Z9,ZA,ZB,ZC,ZD,w6,g6,ptsHex,utfCount,wrdClass,wrdShort,strHasPrefix,strItoa6,strAtoi,strSplit]
 refine go0 kOd0 20 ?_
 simp(maxSteps:=4000000)only[go_sem,reduceIte,reduceCtorEq,Z0,Z1,Z2,Z3,Z4,Z5,Z6,Z7,Z8,Z9,ZA,ZB,ZC,ZD,Tryz.f11,g6,ptsHex,utfCount,wrdClass,wrdShort,strHasPrefix,strItoa6,strAtoi,strSplit]
 refine OkQ.opX (u:=⟨.s (.pb 3 6),[],4⟩) (by kernel_rfl) rfl ?_
 refine go0 kOd0 20 ?_
 simp(maxSteps:=4000000)only[go_sem,reduceIte,reduceCtorEq,Z0,Z1,Z2,Z3,Z4,Z5,Z6,Z7,Z8,Z9,ZA,ZB,ZC,ZD,Tryz.f11,g6,ptsHex,utfCount,wrdClass,wrdShort,strHasPrefix,strItoa6,strAtoi,strSplit]
 refine OkQ.callFb rfl rfl rfl (by trivial) rfl (bIOd58.trans rfl) (by decide) ?_
 simp(maxSteps:=4000000)only[go_sem,reduceIte,reduceCtorEq,Z0,Z1,Z2,Z3,Z4,Z5,Z6,Z7,Z8,Z9,ZA,ZB,ZC,ZD,bIOd58,nEOd58,Tryz.f58,ptsHex,utfCount,wrdClass,wrdShort,strHasPrefix,strItoa6,strAtoi,strSplit]
 by_cases c6:(List.getD l.2.2.2.1 9 [])=[89]
 ·have d61:decide ((List.getD l.2.2.2.1 9 [])=[89])=true:=decide_eq_true c6
  have e:rowE l=0:=by rw[rowE,if_neg h2,if_neg hB,if_neg (by rw[c0];simp),if_neg c1,if_neg c2n,if_neg c3,if_neg c4,if_neg c5,if_neg (fun h=>h.1 c6)]
  have v:rowV l=rowR l:=by rw[rowV,if_pos e]
  refine go0 kOd0 60 ?_
  simp(maxSteps:=4000000)only[go_sem,reduceIte,reduceCtorEq,Z0,Z1,Z2,Z3,Z4,Z5,Z6,Z7,Z8,Z9,ZA,ZB,ZC,ZD,h0,d61,ptsHex,utfCount,wrdClass,wrdShort,strHasPrefix,strItoa6,strAtoi,strSplit]
  (repeat' first|apply And.intro|intro _)
  all_goals try first|contradiction|omega|rfl|trivial
  dsimp only
  refine go0 kOd0 10 ?_
  simp(maxSteps:=4000000)only[go_sem,reduceIte,reduceCtorEq,Z0,Z1,Z2,Z3,Z4,Z5,Z6,Z7,Z8,Z9,ZA,ZB,ZC,ZD,g6,ptsHex,utfCount,wrdClass,wrdShort,strHasPrefix,strItoa6,strAtoi,strSplit]
  (repeat' first|apply And.intro|intro _)
  all_goals try first|contradiction|omega
  refine run_ok (Cs:=[ptsHex,utfCount,wrdClass,wrdShort,strHasPrefix,strItoa6,strAtoi,strSplit]) (stp:=[]) (inl:=[]) (unr:=true) (cons_ok ptsHex_ok (cons_ok utfCount_ok (cons_ok wrdClass_ok (cons_ok wrdShort_ok (cons_ok strHasPrefix_ok (cons_ok strItoa6_ok (cons_ok strAtoi_ok (cons_ok strSplit_ok nil_ok)))))))) 30 _ _ _ _ ?_
  simp(maxSteps:=4000000)only[go_sem,reduceIte,reduceCtorEq,Z0,Z1,Z2,Z3,Z4,Z5,Z6,Z7,Z8,Z9,ZA,ZB,ZC,ZD,w7,g7,rowsScan,e,v,rowR,fld,ptsHex,utfCount,wrdClass,wrdShort,strHasPrefix,strItoa6,strAtoi,strSplit]
  (repeat' first|apply And.intro|intro _)
  all_goals first|contradiction|omega|exact d61.symm|rfl|fail
 have d61:decide ((List.getD l.2.2.2.1 9 [])=[89])=false:=decide_eq_false c6
 by_cases c7:(List.getD l.2.2.2.1 9 [])=[78]
 ·have d62:decide ((List.getD l.2.2.2.1 9 [])=[78])=true:=decide_eq_true c7
  have e:rowE l=0:=by rw[rowE,if_neg h2,if_neg hB,if_neg (by rw[c0];simp),if_neg c1,if_neg c2n,if_neg c3,if_neg c4,if_neg c5,if_neg (fun h=>h.2 c7)]
  have v:rowV l=rowR l:=by rw[rowV,if_pos e]
  refine go0 kOd0 60 ?_
  simp(maxSteps:=4000000)only[go_sem,reduceIte,reduceCtorEq,Z0,Z1,Z2,Z3,Z4,Z5,Z6,Z7,Z8,Z9,ZA,ZB,ZC,ZD,h0,d61,d62,ptsHex,utfCount,wrdClass,wrdShort,strHasPrefix,strItoa6,strAtoi,strSplit]
  (repeat' first|apply And.intro|intro _)
  all_goals try first|contradiction|omega|rfl|trivial
  dsimp only
  refine go0 kOd0 10 ?_
  simp(maxSteps:=4000000)only[go_sem,reduceIte,reduceCtorEq,Z0,Z1,Z2,Z3,Z4,Z5,Z6,Z7,Z8,Z9,ZA,ZB,ZC,ZD,g6,ptsHex,utfCount,wrdClass,wrdShort,strHasPrefix,strItoa6,strAtoi,strSplit]
  (repeat' first|apply And.intro|intro _)
  all_goals try first|contradiction|omega
  refine run_ok (Cs:=[ptsHex,utfCount,wrdClass,wrdShort,strHasPrefix,strItoa6,strAtoi,strSplit]) (stp:=[]) (inl:=[]) (unr:=true) (cons_ok ptsHex_ok (cons_ok utfCount_ok (cons_ok wrdClass_ok (cons_ok wrdShort_ok (cons_ok strHasPrefix_ok (cons_ok strItoa6_ok (cons_ok strAtoi_ok (cons_ok strSplit_ok nil_ok)))))))) 30 _ _ _ _ ?_
  simp(maxSteps:=4000000)only[go_sem,reduceIte,reduceCtorEq,Z0,Z1,Z2,Z3,Z4,Z5,Z6,Z7,Z8,Z9,ZA,ZB,ZC,ZD,w7,g7,rowsScan,e,v,rowR,fld,ptsHex,utfCount,wrdClass,wrdShort,strHasPrefix,strItoa6,strAtoi,strSplit]
  (repeat' first|apply And.intro|intro _)
  all_goals first|contradiction|omega|exact d61.symm|rfl|fail
 have d62:decide ((List.getD l.2.2.2.1 9 [])=[78])=false:=decide_eq_false c7
 have e:rowE l=66:=by rw[rowE,if_neg h2,if_neg hB,if_neg (by rw[c0];simp),if_neg c1,if_neg c2n,if_neg c3,if_neg c4,if_neg c5,if_pos ⟨c6,c7⟩]
 have v:rowV l=rowZ:=by rw[rowV,if_neg (by rw[e];decide)]
 refine go0 kOd0 60 ?_
 simp(maxSteps:=4000000)only[go_sem,reduceIte,reduceCtorEq,Z0,Z1,Z2,Z3,Z4,Z5,Z6,Z7,Z8,Z9,ZA,ZB,ZC,ZD,h0,d61,d62,ptsHex,utfCount,wrdClass,wrdShort,strHasPrefix,strItoa6,strAtoi,strSplit]
 (repeat' first|apply And.intro|intro _)
 all_goals try first|contradiction|omega|rfl|trivial
 dsimp only
 refine go0 kOd0 60 ?_
 simp(maxSteps:=4000000)only[go_sem,reduceIte,reduceCtorEq,Z0,Z1,Z2,Z3,Z4,Z5,Z6,Z7,Z8,Z9,ZA,ZB,ZC,ZD,rowsScan,e,v,rowZ,ptsHex,utfCount,wrdClass,wrdShort,strHasPrefix,strItoa6,strAtoi,strSplit]
 (repeat' first|apply And.intro|intro _)
 all_goals first|contradiction|omega|rfl|fail
end Go.Proofs.YtcbmonndkjihkaaGreatDoor.Sx
namespace Go.Proofs.YtcbmonndkjihkaaGreatDoor.Sx
attribute [local irreducible] OkQ Ok RetE
set_option linter.unusedSimpArgs false
set_option linter.unusedVariables false
theorem kNe0:∀c∈[linPieces,linScan],c.Ok Tryz.prog:=(cons_ok linPieces_ok (cons_ok linScan_ok nil_ok))
theorem bINe63:bodyI Tryz.prog 63=bodyF Tryz.f63:=by kernel_rfl
theorem nENe63:isEsc Tryz.prog 63=false:=by kernel_rfl
theorem bINe86:bodyI Tryz.prog 86=bodyF Tryz.f86:=by kernel_rfl
theorem nENe86:isEsc Tryz.prog 86=false:=by kernel_rfl
open Nat renaming reduceEqDiff→Z0,reduceBEq→Z1,reduceAdd→Z2,reduceSub→Z3,reduceMul→Z4,reduceLeDiff→Z5
open Int renaming reduceEq→Z6,reduceLE→Z7,reduceLT→Z8,reduceNeg→Z9,reduceToNat→ZA,reduceAdd→ZB,reduceSub→ZC,reduceMul→ZD
set_option maxRecDepth 8000
def pcZ:PcD:=(0,0,0,())
theorem pcs_in(t:List UInt8):∀f a,a≤t.length→∀p∈pcsFrom t f a,0≤p.1∧p.1≤p.2.1∧p.2.1≤(t.length:Int)∧p.2.1≤p.2.2.1
 |0,_,_,p,hp=>by simp[pcsFrom]at hp
 |f+1,a,ha,p,hp=>by
  have hlt:=idx_lt (t.drop a) 10
  rw[List.length_drop]at hlt
  rw[pcsFrom]at hp
  split at hp
  ·simp at hp
   subst hp
   dsimp only
   omega
  ·rename_i h
   have hc:crN t a (Lib.indexByte (t.drop a) 10).toNat≤(Lib.indexByte (t.drop a) 10).toNat:=by unfold crN;split<;>omega
   rcases List.mem_cons.1 hp with rfl|hp
   ·dsimp only
    omega
   ·exact pcs_in t f _ (by omega) p hp
theorem pc_at{t:List UInt8}{i:Nat}(h:i<(pcsV t).length):(pcsV t).drop i=(pcsV t).getD i pcZ::(pcsV t).drop (i+1)∧0≤((pcsV t).getD i pcZ).1∧((pcsV t).getD i pcZ).1≤((pcsV t).getD i pcZ).2.1∧((pcsV t).getD i pcZ).2.1≤(t.length:Int):=by
 have e:(pcsV t).getD i pcZ=(pcsV t)[i]:=by simp[List.getD_eq_getElem?_getD,h]
 have hm:(pcsV t)[i]∈pcsV t:=List.getElem_mem h
 obtain⟨a,b,c,_⟩:=pcs_in t _ _ (bom_len t) _ hm
 rw[e]
 exact⟨List.drop_eq_getElem_cons h,a,b,c⟩
abbrev tLines:Ty:= .slice 72 tLine
def linReadP(x:(tyL [(false,.str),(false,.str)]).den):Prop:=(x.2.1:List UInt8).length≤100000000000
def linRead:Con:=⟨35,[(false,.str),(false,.str)],[(false,tLines),(false,.opq)],fun x=>linReadP x∧(linesV x.2.1).1=0,fun x=>((linesV x.2.1).2.2,.nilIface,()),false⟩
def linReadX:XCon:=⟨35,[(false,.str),(false,.str)],[(false,[.nils])],44,48,fun x=>linReadP x∧¬(linesV x.2.1).1=0,fun x=>[.str x.1,.int .i64 (linesV x.2.1).2.1,.int .i64 (linesV x.2.1).1]⟩
theorem oneN:Value.nilIface.oneCell'=true:=rfl
theorem linRead_al:linRead.2=[(false,.str),(false,.str)]:=rfl
set_option maxHeartbeats 4000000 in
theorem linRead_e:linRead.Ok Tryz.prog∧linReadX.Ok Tryz.prog:=by
 refine econ_r (d:=linReadX) linReadP rfl rfl Tryz.func35 rfl (by decide) (fun _ h=>h.1) (fun _ h=>h.1) (fun x hx hp=>run_ok (Cs:=[linPieces]) (stp:=[]) (inl:=[63,86]) (unr:=false) (cons_ok linPieces_ok nil_ok) 400 _ _ _ _ ?_) (by decide)
 obtain⟨(file:List UInt8),(t:List UInt8),⟨⟩⟩:=x
 have hz:t.length≤100000000000:=hp
 clear hx hp
 simp(maxSteps:=4000000)only[go_sem,reduceIte,reduceCtorEq,Z0,Z1,Z2,Z3,Z4,Z5,Z6,Z7,Z8,Z9,ZA,ZB,ZC,ZD,Tryz.f35,linRead_al,oneN,bINe63,nENe63,Tryz.f63,bINe86,nENe86,Tryz.f86,linPieces]
 (repeat' first|apply And.intro|intro _|(show staB _ _=true;kernel_rfl)|(show dynB _ _=true;kernel_rfl)|(show dynP _ _ _=true;kernel_rfl))
 all_goals try first|contradiction|omega
 refine OkQ.virt 72 tLine ?_
 refine OkQ.loopF (α:=Nat×List LnD) 5 [7,8,9,10,13,14,15,16,17,18,19,20,21,22,23,24,25,26,27,28,29,30,31,32,33] (fun _=>[]) [2,3,4,5,8,9,10,11,12,13,14,15,16,17,18,19,20,21,22,23,24,25,26,27,28,29] (fun x=>[(8,.s (.int .i64 (x.1:Int)))]) (fun x=>[(3,.box 82 [.sub 7 0 x.2.length]),(7,.arr false 72 tLine x.2)])
  (fun x=>x.1≤(pcsV t).length∧x.2.length≤x.1∧scFold t (x.1+1) ((pcsV t).drop x.1) x.2=linesV t) (fun x=>(pcsV t).length - x.1) (0,[]) rfl ⟨Nat.zero_le _,Nat.zero_le _,rfl⟩ ?_ fun x hx=>?_
 ·simp(maxSteps:=4000000)only[go_sem,reduceIte,reduceCtorEq,Z0,Z1,Z2,Z3,Z4,Z5,Z6,Z7,Z8,Z9,ZA,ZB,ZC,ZD,linPieces]
  all_goals first|rfl|exact⟨rfl,rfl⟩|exact⟨⟨rfl,rfl⟩,rfl⟩|exact⟨rfl,rfl,rfl⟩|fail
 obtain⟨i,out⟩:=x
 obtain⟨hi,hol,hsc⟩:=hx
 dsimp only at hi hol hsc ⊢
 have hpl:(pcsV t).length≤t.length+1:=by
  have:=pcs_len t (t.length+1) (bomN t) (bom_len t)
  unfold pcsV
  omega
 rcases Nat.lt_or_ge i (pcsV t).length with hlt|hge
 ·obtain⟨hdr,q0,q1,q2⟩:=pc_at hlt
  have cA:(pcsV t).getD i (0,0,0,())=(pcsV t).getD i pcZ:=rfl
  generalize (pcsV t).getD i pcZ=p at*
  have dl:decide ((i:Int)<((pcsV t).length:Int))=true:=decide_eq_true (by omega)
  rw[hdr,scFold]at hsc
  have hw:wr .i64 ((i:Int)+1)=((i+1:Nat):Int):=wr_succ (by omega)
  by_cases hE:p.1=p.2.2.1
  ·have dE:decide (p.1=p.2.2.1)=true:=decide_eq_true hE
   rw[if_pos hE]at hsc
   refine go0 kNe0 60 ?_
   have e1:=hsc.symm
   simp(maxSteps:=4000000)only[go_sem,reduceIte,reduceCtorEq,Z0,Z1,Z2,Z3,Z4,Z5,Z6,Z7,Z8,Z9,ZA,ZB,ZC,ZD,dl,cA,dE,oneN,linPieces,linScan]
   (repeat' first|apply And.intro|intro _|(show staB _ _=true;kernel_rfl)|(show dynB _ _=true;kernel_rfl)|(show dynP _ _ _=true;kernel_rfl))
   all_goals try first|contradiction|omega
   refine RetE.mk (fun _=>?_) (fun h=>(show _∧¬(linesV t).1=0 from h).2 (by rw[e1]) |>.elim)
   simp(maxSteps:=4000000)only[go_sem,reduceIte,reduceCtorEq,Z0,Z1,Z2,Z3,Z4,Z5,Z6,Z7,Z8,Z9,ZA,ZB,ZC,ZD,linRead,e1,oneN,linPieces,linScan]
   (repeat' first|apply And.intro|intro _|(show staB _ _=true;kernel_rfl)|(show dynB _ _=true;kernel_rfl)|(show dynP _ _ _=true;kernel_rfl))
   all_goals fail
  ·have dE:decide (p.1=p.2.2.1)=false:=decide_eq_false hE
   rw[if_neg hE]at hsc
   have hl:List.take (p.2.1.toNat - p.1.toNat) (List.drop p.1.toNat t)=lineOf t p:=by
    unfold lineOf
    congr 1
    omega
   have hll:(lineOf t p).length≤t.length:=by unfold lineOf;simp;omega
   by_cases hS:scanE (lineOf t p)=0
   ·have dS:decide (scanE (lineOf t p)=0)=true:=decide_eq_true hS
    have hv:scanV ((i+1:Nat):Int) (lineOf t p)=partsV ((i+1:Nat):Int) (lineOf t p):=if_pos hS
    rw[if_neg (by simp[hS])]at hsc
    refine go0 kNe0 200 ?_
    simp(maxSteps:=4000000)only[go_sem,reduceIte,reduceCtorEq,Z0,Z1,Z2,Z3,Z4,Z5,Z6,Z7,Z8,Z9,ZA,ZB,ZC,ZD,dl,cA,dE,hw,hl,dS,hv,oneN,linPieces,linScan]
    (repeat' first|apply And.intro|intro _|(show staB _ _=true;kernel_rfl)|(show dynB _ _=true;kernel_rfl)|(show dynP _ _ _=true;kernel_rfl))
    all_goals try first|contradiction|omega
    exact⟨(i+1,out++[partsV ((i+1:Nat):Int) (lineOf t p)]),⟨by dsimp only;omega,by simp;omega,hsc⟩,by dsimp only;omega,rfl,by simp,rfl⟩
   ·have dS:decide (scanE (lineOf t p)=0)=false:=decide_eq_false hS
    rw[if_pos hS]at hsc
    refine go0 kNe0 200 ?_
    have e1:=hsc.symm
    simp(maxSteps:=4000000)only[go_sem,reduceIte,reduceCtorEq,Z0,Z1,Z2,Z3,Z4,Z5,Z6,Z7,Z8,Z9,ZA,ZB,ZC,ZD,dl,cA,dE,hw,hl,dS,oneN,linPieces,linScan]
    (repeat' first|apply And.intro|intro _|(show staB _ _=true;kernel_rfl)|(show dynB _ _=true;kernel_rfl)|(show dynP _ _ _=true;kernel_rfl))
    all_goals try first|contradiction|omega
    refine RetE.mk (fun h=>((by rw[e1];exact hS:¬(linesV t).1=0) (show _∧(linesV t).1=0 from h).2).elim) (fun _=>?_)
    show RetX _ _ linReadX (file,t,()) _
    simp(maxSteps:=4000000)only[go_sem,reduceIte,reduceCtorEq,Z0,Z1,Z2,Z3,Z4,Z5,Z6,Z7,Z8,Z9,ZA,ZB,ZC,ZD,linReadX,e1,oneN,linPieces,linScan]
    (repeat' first|apply And.intro|intro _|(show staB _ _=true;kernel_rfl)|(show dynB _ _=true;kernel_rfl)|(show dynP _ _ _=true;kernel_rfl))
    exact⟨_,rfl,by rfl⟩
 ·have e:i=(pcsV t).length:=by omega
  subst e
  rw[List.drop_length,scFold]at hsc
  have dl:decide (((pcsV t).length:Int)<((pcsV t).length:Int))=false:=decide_eq_false (by omega)
  refine go0 kNe0 60 ?_
  have e1:=hsc.symm
  simp(maxSteps:=4000000)only[go_sem,reduceIte,reduceCtorEq,Z0,Z1,Z2,Z3,Z4,Z5,Z6,Z7,Z8,Z9,ZA,ZB,ZC,ZD,dl,oneN,linPieces,linScan]
  (repeat' first|apply And.intro|intro _|(show staB _ _=true;kernel_rfl)|(show dynB _ _=true;kernel_rfl)|(show dynP _ _ _=true;kernel_rfl))
  all_goals try first|contradiction|omega
  refine RetE.mk (fun _=>?_) (fun h=>(show _∧¬(linesV t).1=0 from h).2 (by rw[e1]) |>.elim)
  simp(maxSteps:=4000000)only[go_sem,reduceIte,reduceCtorEq,Z0,Z1,Z2,Z3,Z4,Z5,Z6,Z7,Z8,Z9,ZA,ZB,ZC,ZD,linRead,e1,oneN,linPieces,linScan]
  (repeat' first|apply And.intro|intro _|(show staB _ _=true;kernel_rfl)|(show dynB _ _=true;kernel_rfl)|(show dynP _ _ _=true;kernel_rfl))
  all_goals fail
theorem linRead_ok:linRead.Ok Tryz.prog:=linRead_e.1
theorem linReadX_ok:linReadX.Ok Tryz.prog:=linRead_e.2
end Go.Proofs.YtcbmonndkjihkaaGreatDoor.Sx
namespace Go.Proofs.YtcbmonndkjihkaaGreatDoor.Sx
attribute [local irreducible] OkQ Ok
set_option linter.unusedSimpArgs false
set_option linter.unusedVariables false
set_option maxRecDepth 8000
theorem fields_len{s:List UInt8}:∀p∈fieldsV s,p.length≤s.length:=by
 intro p hp
 unfold fieldsV at hp
 split at hp
 ·cases hp
 ·obtain⟨q,hq,rfl⟩:=List.mem_map.1 hp
  exact Nat.le_trans (trim_len q) (split_each 59 s q hq)
theorem parts_fld{no:Int}{s:List UInt8}:∀p∈(partsV no s).2.2.2.1,p.length≤s.length:=by
 have a1:=head_len s
 have a2:=note_len s
 intro p hp
 unfold partsV at hp
 split at hp
 ·have:=fields_len p hp
  have h4:=cutB1_len ((lhdV s).drop 1) 58
  rw[List.length_drop]at h4
  omega
 ·split at hp
  ·have:=fields_len p hp
   have h4:=cutA_len s 35
   omega
  ·split at hp
   ·have:=fields_len p hp
    have h4:=cutA_len ((noteV s).drop 9) 35
    rw[List.length_drop]at h4
    omega
   ·have:=fields_len p hp
    have h4:=cutA_len s 35
    omega
theorem lineOf_len(t:List UInt8)(p:PcD):(lineOf t p).length≤t.length:=by
 unfold lineOf
 rw[List.length_take,List.length_drop]
 omega
theorem sc_fld(t:List UInt8):∀(ps:List PcD) (no:Nat) (out:List LnD),(∀l∈out,∀p∈l.2.2.2.1,p.length≤t.length)→∀l∈(scFold t no ps out).2.2,∀p∈l.2.2.2.1,p.length≤t.length
 |[],_,out,h=>h
 |p::ps,no,out,h=>by
  rw[scFold]
  split
  ·exact h
  ·split
   ·intro l hl
    cases hl
   ·refine sc_fld t ps (no+1) _ fun l hl=>?_
    rcases List.mem_append.1 hl with hl|hl
    ·exact h l hl
    ·rw[List.mem_singleton.1 hl]
     exact fun q hq=>Nat.le_trans (parts_fld q hq) (lineOf_len t p)
theorem lines_fld(t:List UInt8):∀l∈(linesV t).2.2,∀k,(fld l k).length≤t.length:=by
 intro l hl k
 have h:=sc_fld t (pcsV t) 1 [] (fun l hl=>by cases hl) l hl
 unfold fld
 rw[List.getD_eq_getElem?_getD]
 by_cases hk:k<l.2.2.2.1.length
 ·rw[List.getElem?_eq_getElem hk]
  exact h _ (List.getElem_mem hk)
 ·rw[List.getElem?_eq_none (by omega)]
  exact Nat.zero_le _
theorem sc_count(t:List UInt8):∀(ps:List PcD) (no:Nat) (out:List LnD),(scFold t no ps out).2.2.length≤out.length+ps.length
 |[],_,out=>by rw[scFold];simp
 |p::ps,no,out=>by
  rw[scFold]
  split
  ·exact Nat.le_add_right _ _
  ·split
   ·exact Nat.zero_le _
   ·have:=sc_count t ps (no+1) (out++[partsV (no:Int) (lineOf t p)])
    rw[List.length_append,List.length_singleton]at this
    rw[List.length_cons]
    omega
theorem lines_count(t:List UInt8):(linesV t).2.2.length≤t.length+1:=by
 have h1:=sc_count t (pcsV t) 1 []
 have h2:=pcs_len t (t.length+1) (bomN t) (bom_len t)
 unfold pcsV at h1
 unfold linesV pcsV
 simp at h1
 omega
def lnZ':LnD:=(0,0,[],[],[],())
theorem line_at{L:List LnD}{i:Nat}(h:i<L.length):L.drop i=L.getD i lnZ'::L.drop (i+1)∧L.getD i lnZ'∈L:=by
 have e:L.getD i lnZ'=L[i]:=by simp[List.getD_eq_getElem?_getD,h]
 rw[e]
 exact⟨List.drop_eq_getElem_cons h,List.getElem_mem h⟩
theorem row_ok{l:LnD}(h:rowE l=0):rowV l=rowR l∧l.2.2.2.1.length=15∧0≤hexV (fld l 0):=by
 refine⟨by rw[rowV,if_pos h],?_,?_⟩
 ·by_cases h1:l.2.2.2.1.length=15
  ·exact h1
  ·exfalso
   unfold rowE at h
   by_cases h2:l.2.1=2
   ·rw[if_pos h2]at h;cases h
   ·rw[if_neg h2,if_pos (.inr h1)]at h
    cases h
 ·have hz:hexE (fld l 0)=0:=by
   by_cases h1:hexE (fld l 0)=0
   ·exact h1
   ·exfalso
    unfold rowE at h
    by_cases h2:l.2.1=2
    ·rw[if_pos h2]at h;cases h
    ·rw[if_neg h2]at h
     by_cases h3:l.2.1≠1∨l.2.2.2.1.length≠15
     ·rw[if_pos h3]at h;cases h
     ·rw[if_neg h3,if_pos h1]at h
      cases h
  unfold hexV
  cases hb:hexBad (fld l 0)
  ·unfold hexBad at hb
   simp only[Bool.or_eq_false_iff,decide_eq_false_iff_not]at hb
   obtain⟨b1,b2,b3,b4,b5⟩:=hb
   have hall:∀j,j<(fld l 0).length→0≤hexD ((fld l 0).getD j 0):=by
    intro j hj
    have:=List.any_eq_false.1 b4 ((fld l 0)[j]) (List.getElem_mem hj)
    have e:(fld l 0).getD j 0=(fld l 0)[j]:=by simp[List.getD_eq_getElem?_getD,hj]
    rw[e]
    simpa using this
   have hR:=hexTo_R (s:=fld l 0) (fld l 0).length (by omega) hall
   have:=(hexR_in (s:=fld l 0) (fld l 0).length hall).1
   show 0≤hexTo (fld l 0) (fld l 0).length
   omega
  ·exact Int.le_refl _
theorem pair_at{a b:List (List UInt8)}(h:pairB a b=true){i:Nat}(h2:2≤i)(hi:i<15):a.getD i []=b.getD i []:=by
 unfold pairB at h
 have:=List.all_eq_true.1 h i (List.mem_range.2 hi)
 rw[decide_eq_false (by omega:¬i<2),Bool.false_or,decide_eq_true_eq]at this
 exact this
theorem pair_of{a b:List (List UInt8)}(h:∀i,2≤i→i<15→a.getD i []=b.getD i []):pairB a b=true:=by
 unfold pairB
 rw[List.all_eq_true]
 intro i hi
 have hi:=List.mem_range.1 hi
 by_cases h2:i<2
 ·rw[decide_eq_true h2];rfl
 ·rw[decide_eq_true (h i (by omega) hi)];simp
theorem last_app(out:List RowD)(r:RowD):lastR (out++[r])=r.2.2.1:=by unfold lastR;simp
theorem lastR_nil:lastR []= -1:=rfl
end Go.Proofs.YtcbmonndkjihkaaGreatDoor.Sx
namespace Go.Proofs.YtcbmonndkjihkaaGreatDoor.Sx
attribute [local irreducible] OkQ Ok RetE
set_option linter.unusedSimpArgs false
set_option linter.unusedVariables false
theorem kPf0:∀c∈[rowsScan,rowsHalf],c.Ok Tryz.prog:=(cons_ok rowsScan_ok (cons_ok rowsHalf_ok nil_ok))
theorem bIPf38:bodyI Tryz.prog 38=bodyF Tryz.f38:=by kernel_rfl
theorem nEPf38:isEsc Tryz.prog 38=false:=by kernel_rfl
theorem bIPf36:bodyI Tryz.prog 36=bodyF Tryz.f36:=by kernel_rfl
theorem nEPf36:isEsc Tryz.prog 36=false:=by kernel_rfl
open Nat renaming reduceEqDiff→Z0,reduceBEq→Z1,reduceAdd→Z2,reduceSub→Z3,reduceMul→Z4,reduceLeDiff→Z5
open Int renaming reduceEq→Z6,reduceLE→Z7,reduceLT→Z8,reduceNeg→Z9,reduceToNat→ZA,reduceAdd→ZB,reduceSub→ZC,reduceMul→ZD
set_option maxRecDepth 8000
def wtC:Option WtD→List S1
 |none=>[.int .i64 0,.int .i32 0,.int .i32 0,.str [],.str [],.int .u8 0,.int .u8 0,.int .i32 0,.bool false,.nils,.str [],.bool false]
 |some w=>[.int .i64 w.1.1,.int .i32 w.1.2.1,.int .i32 w.1.2.2.1,.str w.1.2.2.2.1,.str w.1.2.2.2.2.1,.int .u8 w.1.2.2.2.2.2.1,.int .u8 w.1.2.2.2.2.2.2.1,.int .i32 w.1.2.2.2.2.2.2.2.1,.bool w.1.2.2.2.2.2.2.2.2.1,.ro (.slice 16 .str) w.2.1,.str w.2.2,.bool true]
def rowReadP(x:(tyL [(false,.str),(false,.str)]).den):Prop:=(x.2.1:List UInt8).length≤1000000000
def rowRead:Con:=⟨14,[(false,.str),(false,.str)],[(false,tRows),(false,.opq)],fun x=>rowReadP x∧(rowsV x.2.1).1=0,fun x=>((rowsV x.2.1).2.2,.nilIface,()),false⟩
def rowReadX:XCon:=⟨14,[(false,.str),(false,.str)],[(false,[.nils])],44,48,fun x=>rowReadP x∧¬(rowsV x.2.1).1=0,fun x=>[.str x.1,.int .i64 (rowsV x.2.1).2.1,.int .i64 (rowsV x.2.1).1]⟩
theorem rowRead_al:rowRead.2=[(false,.str),(false,.str)]:=rfl
set_option maxHeartbeats 40000000 in
theorem rowRead_e:rowRead.Ok Tryz.prog∧rowReadX.Ok Tryz.prog:=by
 refine econ_r (d:=rowReadX) rowReadP rfl rfl Tryz.func14 rfl (by decide) (fun _ h=>h.1) (fun _ h=>h.1) (fun x hx hp=>run_ok (Cs:=[rowsScan,rowsHalf]) (stp:=[]) (inl:=[]) (unr:=false) (cons_ok rowsScan_ok (cons_ok rowsHalf_ok nil_ok)) 0 _ _ _ _ ?_) (by decide)
 obtain⟨(file:List UInt8),(t:List UInt8),⟨⟩⟩:=x
 have hz:t.length≤1000000000:=hp
 clear hx hp
 by_cases hL:(linesV t).1=0
 case neg=>
  have hV:rowsV t=((linesV t).1,(linesV t).2.1,[]):=if_pos hL
  refine go0 kPf0 30 ?_
  simp(maxSteps:=4000000)only[go_sem,reduceIte,reduceCtorEq,Z0,Z1,Z2,Z3,Z4,Z5,Z6,Z7,Z8,Z9,ZA,ZB,ZC,ZD,Tryz.f14,rowRead_al,oneN,rowsScan,rowsHalf]
  (repeat' first|apply And.intro|intro _)
  all_goals try first|contradiction|omega
  refine OkQ.xcall linReadX_ok (file,t,()) rfl (.inl rfl) rfl (by trivial) rfl ⟨by show t.length≤_;omega,hL⟩ ?_
  refine go0 kPf0 30 ?_
  simp(maxSteps:=4000000)only[go_sem,reduceIte,reduceCtorEq,Z0,Z1,Z2,Z3,Z4,Z5,Z6,Z7,Z8,Z9,ZA,ZB,ZC,ZD,linReadX,oneN,rowsScan,rowsHalf]
  (repeat' first|apply And.intro|intro _)
  all_goals try first|contradiction|omega
  refine RetE.mk (fun h=>(hL (by
   have h2:rowReadP (file,t,())∧(rowsV t).1=0:=h
   rw[hV]at h2
   exact h2.2)).elim) (fun _=>?_)
  show RetX _ _ rowReadX (file,t,()) _
  simp(maxSteps:=4000000)only[go_sem,reduceIte,reduceCtorEq,Z0,Z1,Z2,Z3,Z4,Z5,Z6,Z7,Z8,Z9,ZA,ZB,ZC,ZD,rowReadX,hV,oneN,rowsScan,rowsHalf]
  (repeat' first|apply And.intro|intro _)
  exact⟨_,rfl,by rfl⟩
 have hV:rowsV t=rdFold (linesV t).2.2 [] none:=if_neg (by simp[hL])
 have hcnt:=lines_count t
 have hfl:=lines_fld t
 obtain⟨L,hLd⟩:∃L,L=(linesV t).2.2:=⟨_,rfl⟩
 rw[←hLd]at hV hcnt hfl
 refine run_ok (Cs:=[rowsScan,rowsHalf,linRead]) (stp:=[]) (inl:=[36,38]) (unr:=false) (cons_ok rowsScan_ok (cons_ok rowsHalf_ok (cons_ok linRead_ok nil_ok))) 60 _ _ _ _ ?_
 simp(maxSteps:=4000000)only[go_sem,reduceIte,reduceCtorEq,Z0,Z1,Z2,Z3,Z4,Z5,Z6,Z7,Z8,Z9,ZA,ZB,ZC,ZD,Tryz.f14,rowRead_al,oneN,←hLd,bIPf36,nEPf36,Tryz.f36,bIPf38,nEPf38,Tryz.f38,rowsScan,rowsHalf,linRead]
 (repeat' first|apply And.intro|intro _|(show staB _ _=true;kernel_rfl)|(show dynB _ _=true;kernel_rfl)|(show dynP _ _ _=true;kernel_rfl))
 all_goals try first|contradiction|omega|exact hL|(show t.length≤_;omega)
 refine OkQ.virt 64 tRow ?_
 refine OkQ.loopK (α:=Nat×List RowD×Option WtD) [0,1,2,3,4,5,6,7,8,10,12,13,14,15,16,17,18,19,20,21,22,23,24,25,26,27,28,31,32,33,34,35,36,37,38,39,40,41,42,43,44,45,46,47,48,49,50,51,52,53,54,55,56,57,58,59,60,61,62,63,64,65,66,67,68,69,70,71,72,73,74,75,76,77,78,79,80,81,82,83,84,85,86,87,88,89,90,91,92,93,94,95,96,97,98,99,100,101,102,103,104,105,106,107,108,109,110,111,112,113,114,115] (fun x=>[(31,.s (.int .i64 (x.1:Int))),(8,.s (.sub 3 0 x.2.1.length)),(10,.s (.int .i32 (lastR x.2.1)))]) (fun x=>[(2,.box 86 (wtC x.2.2)),(3,.arr false 64 tRow x.2.1)])
  (fun x=>x.1≤L.length∧x.2.1.length≤x.1∧rdFold (L.drop x.1) x.2.1 x.2.2=rowsV t∧∀w,x.2.2=some w→w.2.1.length=15) (fun x=>L.length - x.1) (0,[],none) ⟨Nat.zero_le _,Nat.zero_le _,hV.symm,fun w h=>by cases h⟩ ?_ fun x hx=>?_
 ·simp(maxSteps:=4000000)only[go_sem,reduceIte,reduceCtorEq,Z0,Z1,Z2,Z3,Z4,Z5,Z6,Z7,Z8,Z9,ZA,ZB,ZC,ZD,wtC,lastR_nil,rowsScan,rowsHalf,linRead]
  all_goals first|rfl|exact⟨rfl,rfl⟩|exact⟨⟨rfl,rfl⟩,rfl⟩|exact⟨rfl,rfl,rfl⟩|fail
 obtain⟨i,out,w⟩:=x
 obtain⟨hi,hol,hfo,hw15⟩:=hx
 dsimp only at hi hol hfo hw15 ⊢
 rcases Nat.lt_or_ge i L.length with hlt|hge
 case inr=>
  have e:i=L.length:=by omega
  subst e
  rw[List.drop_length]at hfo
  have dl:decide ((L.length:Int)<(L.length:Int))=false:=decide_eq_false (by omega)
  cases w with
  |none=>
   rw[rdFold]at hfo
   have hfo:=hfo.symm
   refine run_ok (Cs:=[rowsScan,rowsHalf]) (stp:=[]) (inl:=[36,38]) (unr:=false) (cons_ok rowsScan_ok (cons_ok rowsHalf_ok nil_ok)) 60 _ _ _ _ ?_
   simp(maxSteps:=4000000)only[go_sem,reduceIte,reduceCtorEq,Z0,Z1,Z2,Z3,Z4,Z5,Z6,Z7,Z8,Z9,ZA,ZB,ZC,ZD,wtC,dl,oneN,bIPf36,nEPf36,Tryz.f36,bIPf38,nEPf38,Tryz.f38,rowsScan,rowsHalf]
   (repeat' first|apply And.intro|intro _|(show staB _ _=true;kernel_rfl)|(show dynB _ _=true;kernel_rfl)|(show dynP _ _ _=true;kernel_rfl))
   all_goals try first|contradiction|omega
   refine RetE.mk (fun _=>?_) (fun h=>(show _∧¬(rowsV t).1=0 from h).2 (by rw[hfo]) |>.elim)
   simp(maxSteps:=4000000)only[go_sem,reduceIte,reduceCtorEq,Z0,Z1,Z2,Z3,Z4,Z5,Z6,Z7,Z8,Z9,ZA,ZB,ZC,ZD,rowRead,hfo,oneN,rowsScan,rowsHalf]
   (repeat' first|apply And.intro|intro _|(show staB _ _=true;kernel_rfl)|(show dynB _ _=true;kernel_rfl)|(show dynP _ _ _=true;kernel_rfl))
   all_goals fail
  |some w=>
   rw[rdFold]at hfo
   have hfo:=hfo.symm
   have hne:¬(61:Int)=0:=by decide
   refine run_ok (Cs:=[rowsScan,rowsHalf]) (stp:=[]) (inl:=[36,38]) (unr:=false) (cons_ok rowsScan_ok (cons_ok rowsHalf_ok nil_ok)) 60 _ _ _ _ ?_
   simp(maxSteps:=4000000)only[go_sem,reduceIte,reduceCtorEq,Z0,Z1,Z2,Z3,Z4,Z5,Z6,Z7,Z8,Z9,ZA,ZB,ZC,ZD,wtC,dl,oneN,bIPf36,nEPf36,Tryz.f36,bIPf38,nEPf38,Tryz.f38,rowsScan,rowsHalf]
   (repeat' first|apply And.intro|intro _|(show staB _ _=true;kernel_rfl)|(show dynB _ _=true;kernel_rfl)|(show dynP _ _ _=true;kernel_rfl))
   all_goals try first|contradiction|omega
   refine RetE.mk (fun h=>?_) (fun _=>?_)
   ·exfalso
    have h2:rowReadP (file,t,())∧(rowsV t).1=0:=h
    rw[hfo]at h2
    exact hne h2.2
   show RetX _ _ rowReadX (file,t,()) _
   simp(maxSteps:=4000000)only[go_sem,reduceIte,reduceCtorEq,Z0,Z1,Z2,Z3,Z4,Z5,Z6,Z7,Z8,Z9,ZA,ZB,ZC,ZD,rowReadX,hfo,oneN,rowsScan,rowsHalf]
   (repeat' first|apply And.intro|intro _|(show staB _ _=true;kernel_rfl)|(show dynB _ _=true;kernel_rfl)|(show dynP _ _ _=true;kernel_rfl))
   exact⟨_,rfl,by rfl⟩
 obtain⟨hdr,hmem⟩:=line_at hlt
 have hlf:=hfl _ hmem
 have cA:L.getD i (0,0,[],[],[],())=L.getD i lnZ':=rfl
 generalize L.getD i lnZ'=l at*
 rw[hdr]at hfo
 have dl:decide ((i:Int)<(L.length:Int))=true:=decide_eq_true (by omega)
 have hw:wr .i64 ((i:Int)+1)=((i+1:Nat):Int):=wr_succ (by omega)
 have hk:∀k,(fld l k).length≤1000000000:=fun k=>Nat.le_trans (hlf k) hz
 by_cases hS:skipL l=true
 ·have hS':l.2.1=0∨l.2.1=3:=by simpa[skipL]using hS
  cases w with
  |none=>
   rw[rdFold,if_pos hS]at hfo
   by_cases h0:l.2.1=0
   ·have k0:decide (l.2.1=0)=true:=decide_eq_true h0
    refine run_ok (Cs:=[rowsScan,rowsHalf]) (stp:=[]) (inl:=[36,38]) (unr:=false) (cons_ok rowsScan_ok (cons_ok rowsHalf_ok nil_ok)) 60 _ _ _ _ ?_
    simp(maxSteps:=4000000)only[go_sem,reduceIte,reduceCtorEq,Z0,Z1,Z2,Z3,Z4,Z5,Z6,Z7,Z8,Z9,ZA,ZB,ZC,ZD,wtC,dl,cA,hw,k0,bIPf36,nEPf36,Tryz.f36,bIPf38,nEPf38,Tryz.f38,rowsScan,rowsHalf]
    (repeat' first|apply And.intro|intro _|(show staB _ _=true;kernel_rfl)|(show dynB _ _=true;kernel_rfl)|(show dynP _ _ _=true;kernel_rfl))
    all_goals try first|contradiction|omega
    refine backK.mk (i+1,out,none) ⟨by dsimp only;omega,by dsimp only;omega,hfo,fun w h=>by cases h⟩ (by dsimp only;omega) ?_
    simp(maxSteps:=4000000)only[go_sem,reduceIte,reduceCtorEq,Z0,Z1,Z2,Z3,Z4,Z5,Z6,Z7,Z8,Z9,ZA,ZB,ZC,ZD,wtC,rowsScan,rowsHalf]
    all_goals first|rfl|exact⟨rfl,rfl⟩|exact⟨⟨rfl,rfl⟩,rfl⟩|fail
   ·have k0:decide (l.2.1=0)=false:=decide_eq_false h0
    have k3:decide (l.2.1=3)=true:=decide_eq_true (hS'.resolve_left h0)
    refine run_ok (Cs:=[rowsScan,rowsHalf]) (stp:=[]) (inl:=[36,38]) (unr:=false) (cons_ok rowsScan_ok (cons_ok rowsHalf_ok nil_ok)) 60 _ _ _ _ ?_
    simp(maxSteps:=4000000)only[go_sem,reduceIte,reduceCtorEq,Z0,Z1,Z2,Z3,Z4,Z5,Z6,Z7,Z8,Z9,ZA,ZB,ZC,ZD,wtC,dl,cA,hw,k0,k3,bIPf36,nEPf36,Tryz.f36,bIPf38,nEPf38,Tryz.f38,rowsScan,rowsHalf]
    (repeat' first|apply And.intro|intro _|(show staB _ _=true;kernel_rfl)|(show dynB _ _=true;kernel_rfl)|(show dynP _ _ _=true;kernel_rfl))
    all_goals try first|contradiction|omega
    refine backK.mk (i+1,out,none) ⟨by dsimp only;omega,by dsimp only;omega,hfo,fun w h=>by cases h⟩ (by dsimp only;omega) ?_
    simp(maxSteps:=4000000)only[go_sem,reduceIte,reduceCtorEq,Z0,Z1,Z2,Z3,Z4,Z5,Z6,Z7,Z8,Z9,ZA,ZB,ZC,ZD,wtC,rowsScan,rowsHalf]
    all_goals first|rfl|exact⟨rfl,rfl⟩|exact⟨⟨rfl,rfl⟩,rfl⟩|fail
  |some w=>
   rw[rdFold,if_pos hS]at hfo
   by_cases h0:l.2.1=0
   ·have k0:decide (l.2.1=0)=true:=decide_eq_true h0
    refine run_ok (Cs:=[rowsScan,rowsHalf]) (stp:=[]) (inl:=[36,38]) (unr:=false) (cons_ok rowsScan_ok (cons_ok rowsHalf_ok nil_ok)) 60 _ _ _ _ ?_
    simp(maxSteps:=4000000)only[go_sem,reduceIte,reduceCtorEq,Z0,Z1,Z2,Z3,Z4,Z5,Z6,Z7,Z8,Z9,ZA,ZB,ZC,ZD,wtC,dl,cA,hw,k0,bIPf36,nEPf36,Tryz.f36,bIPf38,nEPf38,Tryz.f38,rowsScan,rowsHalf]
    (repeat' first|apply And.intro|intro _|(show staB _ _=true;kernel_rfl)|(show dynB _ _=true;kernel_rfl)|(show dynP _ _ _=true;kernel_rfl))
    all_goals try first|contradiction|omega
    refine backK.mk (i+1,out,some w) ⟨by dsimp only;omega,by dsimp only;omega,hfo,hw15⟩ (by dsimp only;omega) ?_
    simp(maxSteps:=4000000)only[go_sem,reduceIte,reduceCtorEq,Z0,Z1,Z2,Z3,Z4,Z5,Z6,Z7,Z8,Z9,ZA,ZB,ZC,ZD,wtC,rowsScan,rowsHalf]
    all_goals first|rfl|exact⟨rfl,rfl⟩|exact⟨⟨rfl,rfl⟩,rfl⟩|fail
   ·have k0:decide (l.2.1=0)=false:=decide_eq_false h0
    have k3:decide (l.2.1=3)=true:=decide_eq_true (hS'.resolve_left h0)
    refine run_ok (Cs:=[rowsScan,rowsHalf]) (stp:=[]) (inl:=[36,38]) (unr:=false) (cons_ok rowsScan_ok (cons_ok rowsHalf_ok nil_ok)) 60 _ _ _ _ ?_
    simp(maxSteps:=4000000)only[go_sem,reduceIte,reduceCtorEq,Z0,Z1,Z2,Z3,Z4,Z5,Z6,Z7,Z8,Z9,ZA,ZB,ZC,ZD,wtC,dl,cA,hw,k0,k3,bIPf36,nEPf36,Tryz.f36,bIPf38,nEPf38,Tryz.f38,rowsScan,rowsHalf]
    (repeat' first|apply And.intro|intro _|(show staB _ _=true;kernel_rfl)|(show dynB _ _=true;kernel_rfl)|(show dynP _ _ _=true;kernel_rfl))
    all_goals try first|contradiction|omega
    refine backK.mk (i+1,out,some w) ⟨by dsimp only;omega,by dsimp only;omega,hfo,hw15⟩ (by dsimp only;omega) ?_
    simp(maxSteps:=4000000)only[go_sem,reduceIte,reduceCtorEq,Z0,Z1,Z2,Z3,Z4,Z5,Z6,Z7,Z8,Z9,ZA,ZB,ZC,ZD,wtC,rowsScan,rowsHalf]
    all_goals first|rfl|exact⟨rfl,rfl⟩|exact⟨⟨rfl,rfl⟩,rfl⟩|fail
 have hS':¬l.2.1=0∧¬l.2.1=3:=by simpa[skipL]using hS
 have k0:decide (l.2.1=0)=false:=decide_eq_false hS'.1
 have k3:decide (l.2.1=3)=false:=decide_eq_false hS'.2
 by_cases hE:rowE l=0
 case neg=>
  have dE:decide (rowE l=0)=false:=decide_eq_false hE
  have hst:stepE out w l=rowE l:=by unfold stepE;rw[if_pos hE]
  have hne:=hE
  cases w with
  |none=>
   rw[rdFold,if_neg hS,hst,if_pos hE]at hfo
   have hfo:=hfo.symm
   refine run_ok (Cs:=[rowsScan,rowsHalf]) (stp:=[]) (inl:=[36,38]) (unr:=false) (cons_ok rowsScan_ok (cons_ok rowsHalf_ok nil_ok)) 100 _ _ _ _ ?_
   simp(maxSteps:=4000000)only[go_sem,reduceIte,reduceCtorEq,Z0,Z1,Z2,Z3,Z4,Z5,Z6,Z7,Z8,Z9,ZA,ZB,ZC,ZD,wtC,dl,cA,k0,k3,dE,oneN,bIPf36,nEPf36,Tryz.f36,bIPf38,nEPf38,Tryz.f38,rowsScan,rowsHalf]
   (repeat' first|apply And.intro|intro _|(show staB _ _=true;kernel_rfl)|(show dynB _ _=true;kernel_rfl)|(show dynP _ _ _=true;kernel_rfl))
   all_goals try first|contradiction|omega|exact hk|exact hk _
   refine RetE.mk (fun h=>?_) (fun _=>?_)
   ·exfalso
    have h2:rowReadP (file,t,())∧(rowsV t).1=0:=h
    rw[hfo]at h2
    exact hne h2.2
   show RetX _ _ rowReadX (file,t,()) _
   simp(maxSteps:=4000000)only[go_sem,reduceIte,reduceCtorEq,Z0,Z1,Z2,Z3,Z4,Z5,Z6,Z7,Z8,Z9,ZA,ZB,ZC,ZD,rowReadX,hfo,oneN,rowsScan,rowsHalf]
   (repeat' first|apply And.intro|intro _|(show staB _ _=true;kernel_rfl)|(show dynB _ _=true;kernel_rfl)|(show dynP _ _ _=true;kernel_rfl))
   exact⟨_,rfl,by rfl⟩
  |some w=>
   rw[rdFold,if_neg hS,hst,if_pos hE]at hfo
   have hfo:=hfo.symm
   refine run_ok (Cs:=[rowsScan,rowsHalf]) (stp:=[]) (inl:=[36,38]) (unr:=false) (cons_ok rowsScan_ok (cons_ok rowsHalf_ok nil_ok)) 100 _ _ _ _ ?_
   simp(maxSteps:=4000000)only[go_sem,reduceIte,reduceCtorEq,Z0,Z1,Z2,Z3,Z4,Z5,Z6,Z7,Z8,Z9,ZA,ZB,ZC,ZD,wtC,dl,cA,k0,k3,dE,oneN,bIPf36,nEPf36,Tryz.f36,bIPf38,nEPf38,Tryz.f38,rowsScan,rowsHalf]
   (repeat' first|apply And.intro|intro _|(show staB _ _=true;kernel_rfl)|(show dynB _ _=true;kernel_rfl)|(show dynP _ _ _=true;kernel_rfl))
   all_goals try first|contradiction|omega|exact hk|exact hk _
   refine RetE.mk (fun h=>?_) (fun _=>?_)
   ·exfalso
    have h2:rowReadP (file,t,())∧(rowsV t).1=0:=h
    rw[hfo]at h2
    exact hne h2.2
   show RetX _ _ rowReadX (file,t,()) _
   simp(maxSteps:=4000000)only[go_sem,reduceIte,reduceCtorEq,Z0,Z1,Z2,Z3,Z4,Z5,Z6,Z7,Z8,Z9,ZA,ZB,ZC,ZD,rowReadX,hfo,oneN,rowsScan,rowsHalf]
   (repeat' first|apply And.intro|intro _|(show staB _ _=true;kernel_rfl)|(show dynB _ _=true;kernel_rfl)|(show dynP _ _ _=true;kernel_rfl))
   exact⟨_,rfl,by rfl⟩
 have dE:decide (rowE l=0)=true:=decide_eq_true hE
 obtain⟨hv,hl15,hx0⟩:=row_ok hE
 have hE':¬ ¬rowE l=0:=fun h=>h hE
 obtain⟨hn,hf,hls,hH⟩:∃a b c,halfV (fld l 1)=(a,b,c):=⟨_,_,_,rfl⟩
 cases w with
 |none=>
  rw[rdFold,if_neg hS]at hfo
  cases hls
  case true=>
   have hst:stepE out none l=61:=by
    unfold stepE
    rw[if_neg hE',hH]
    rfl
   rw[hst,if_pos (by decide)]at hfo
   have hfo:=hfo.symm
   have hne:¬(61:Int)=0:=by decide
   refine run_ok (Cs:=[rowsScan,rowsHalf]) (stp:=[]) (inl:=[36,38]) (unr:=false) (cons_ok rowsScan_ok (cons_ok rowsHalf_ok nil_ok)) 200 _ _ _ _ ?_
   simp(maxSteps:=4000000)only[go_sem,reduceIte,reduceCtorEq,Z0,Z1,Z2,Z3,Z4,Z5,Z6,Z7,Z8,Z9,ZA,ZB,ZC,ZD,wtC,dl,cA,k0,k3,dE,hv,rowR,hH,oneN,bIPf36,nEPf36,Tryz.f36,bIPf38,nEPf38,Tryz.f38,rowsScan,rowsHalf]
   (repeat' first|apply And.intro|intro _|(show staB _ _=true;kernel_rfl)|(show dynB _ _=true;kernel_rfl)|(show dynP _ _ _=true;kernel_rfl))
   all_goals try first|contradiction|omega|exact hk|exact hk _
   refine RetE.mk (fun h=>?_) (fun _=>?_)
   ·exfalso
    have h2:rowReadP (file,t,())∧(rowsV t).1=0:=h
    rw[hfo]at h2
    exact hne h2.2
   show RetX _ _ rowReadX (file,t,()) _
   simp(maxSteps:=4000000)only[go_sem,reduceIte,reduceCtorEq,Z0,Z1,Z2,Z3,Z4,Z5,Z6,Z7,Z8,Z9,ZA,ZB,ZC,ZD,rowReadX,hfo,oneN,rowsScan,rowsHalf]
   (repeat' first|apply And.intro|intro _|(show staB _ _=true;kernel_rfl)|(show dynB _ _=true;kernel_rfl)|(show dynP _ _ _=true;kernel_rfl))
   exact⟨_,rfl,by rfl⟩
  by_cases hR:hexV (fld l 0)≤lastR out
  ·have dR:decide (hexV (fld l 0)≤lastR out)=true:=decide_eq_true hR
   have hst:stepE out none l=62:=by
    unfold stepE
    rw[if_neg hE',hH]
    show(if(false:Bool)=true then(61:Int)else if hexV (fld l 0)≤lastR out then 62 else 0)=62
    rw[if_neg Bool.false_ne_true,if_pos hR]
   rw[hst,if_pos (by decide)]at hfo
   have hfo:=hfo.symm
   have hne:¬(62:Int)=0:=by decide
   refine run_ok (Cs:=[rowsScan,rowsHalf]) (stp:=[]) (inl:=[36,38]) (unr:=false) (cons_ok rowsScan_ok (cons_ok rowsHalf_ok nil_ok)) 200 _ _ _ _ ?_
   simp(maxSteps:=4000000)only[go_sem,reduceIte,reduceCtorEq,Z0,Z1,Z2,Z3,Z4,Z5,Z6,Z7,Z8,Z9,ZA,ZB,ZC,ZD,wtC,dl,cA,k0,k3,dE,hv,rowR,hH,dR,oneN,bIPf36,nEPf36,Tryz.f36,bIPf38,nEPf38,Tryz.f38,rowsScan,rowsHalf]
   (repeat' first|apply And.intro|intro _|(show staB _ _=true;kernel_rfl)|(show dynB _ _=true;kernel_rfl)|(show dynP _ _ _=true;kernel_rfl))
   all_goals try first|contradiction|omega|exact hk|exact hk _
   refine RetE.mk (fun h=>?_) (fun _=>?_)
   ·exfalso
    have h2:rowReadP (file,t,())∧(rowsV t).1=0:=h
    rw[hfo]at h2
    exact hne h2.2
   show RetX _ _ rowReadX (file,t,()) _
   simp(maxSteps:=4000000)only[go_sem,reduceIte,reduceCtorEq,Z0,Z1,Z2,Z3,Z4,Z5,Z6,Z7,Z8,Z9,ZA,ZB,ZC,ZD,rowReadX,hfo,oneN,rowsScan,rowsHalf]
   (repeat' first|apply And.intro|intro _|(show staB _ _=true;kernel_rfl)|(show dynB _ _=true;kernel_rfl)|(show dynP _ _ _=true;kernel_rfl))
   exact⟨_,rfl,by rfl⟩
  have dR:decide (hexV (fld l 0)≤lastR out)=false:=decide_eq_false hR
  have hst:stepE out none l=0:=by
   unfold stepE
   rw[if_neg hE',hH]
   show(if(false:Bool)=true then(61:Int)else if hexV (fld l 0)≤lastR out then 62 else 0)=0
   rw[if_neg Bool.false_ne_true,if_neg hR]
  rw[hst,if_neg (by decide)]at hfo
  cases hf
  ·have h1:stepO out none l=out++[rowR l]:=by unfold stepO;rw[hH];rfl
   have h2:stepW none l=none:=by unfold stepW;rw[hH];rfl
   rw[h1,h2]at hfo
   have hla:=last_app out (rowR l)
   refine run_ok (Cs:=[rowsScan,rowsHalf]) (stp:=[]) (inl:=[36,38]) (unr:=false) (cons_ok rowsScan_ok (cons_ok rowsHalf_ok nil_ok)) 200 _ _ _ _ ?_
   simp(maxSteps:=4000000)only[go_sem,reduceIte,reduceCtorEq,Z0,Z1,Z2,Z3,Z4,Z5,Z6,Z7,Z8,Z9,ZA,ZB,ZC,ZD,wtC,dl,cA,k0,k3,dE,hv,rowR,hH,dR,hw,bIPf36,nEPf36,Tryz.f36,bIPf38,nEPf38,Tryz.f38,rowsScan,rowsHalf]
   (repeat' first|apply And.intro|intro _|(show staB _ _=true;kernel_rfl)|(show dynB _ _=true;kernel_rfl)|(show dynP _ _ _=true;kernel_rfl))
   all_goals try first|contradiction|omega|exact hk|exact hk _
   refine backK.mk (i+1,out++[rowR l],none) ⟨by dsimp only;omega,by simp;omega,hfo,fun w h=>by cases h⟩ (by dsimp only;omega) ?_
   simp(maxSteps:=4000000)only[go_sem,reduceIte,reduceCtorEq,Z0,Z1,Z2,Z3,Z4,Z5,Z6,Z7,Z8,Z9,ZA,ZB,ZC,ZD,wtC,hla,rowsScan,rowsHalf]
   all_goals first|rfl|exact⟨rfl,rfl⟩|exact⟨⟨by simp,rfl⟩,rfl⟩|fail
  ·have h1:stepO out none l=out:=by unfold stepO;rw[hH];rfl
   have h2:stepW none l=some (rowR l,l.2.2.2.1,hn):=by unfold stepW;rw[hH];rfl
   rw[h1,h2]at hfo
   refine run_ok (Cs:=[rowsScan,rowsHalf]) (stp:=[]) (inl:=[36,38]) (unr:=false) (cons_ok rowsScan_ok (cons_ok rowsHalf_ok nil_ok)) 200 _ _ _ _ ?_
   simp(maxSteps:=4000000)only[go_sem,reduceIte,reduceCtorEq,Z0,Z1,Z2,Z3,Z4,Z5,Z6,Z7,Z8,Z9,ZA,ZB,ZC,ZD,wtC,dl,cA,k0,k3,dE,hv,rowR,hH,dR,hw,bIPf36,nEPf36,Tryz.f36,bIPf38,nEPf38,Tryz.f38,rowsScan,rowsHalf]
   (repeat' first|apply And.intro|intro _|(show staB _ _=true;kernel_rfl)|(show dynB _ _=true;kernel_rfl)|(show dynP _ _ _=true;kernel_rfl))
   all_goals try first|contradiction|omega|exact hk|exact hk _
   refine backK.mk (i+1,out,some (rowR l,l.2.2.2.1,hn)) ⟨by dsimp only;omega,by dsimp only;omega,hfo,fun w h=>by cases h;exact hl15⟩ (by dsimp only;omega) ?_
   simp(maxSteps:=4000000)only[go_sem,reduceIte,reduceCtorEq,Z0,Z1,Z2,Z3,Z4,Z5,Z6,Z7,Z8,Z9,ZA,ZB,ZC,ZD,wtC,rowR,rowsScan,rowsHalf]
   all_goals first|rfl|exact⟨rfl,rfl⟩|exact⟨⟨rfl,rfl⟩,rfl⟩|fail
 |some w=>
  have hwl:w.2.1.length=15:=hw15 w rfl
  rw[rdFold,if_neg hS]at hfo
  have hst:stepE out (some w) l=joinE w l (rowR l):=by
   unfold stepE
   rw[if_neg hE']
  have hj:joinE w l (rowR l)=if hls=false∨hn≠w.2.2 then 61 else if hexV (fld l 0)≤w.1.2.1 then 62 else if pairB l.2.2.2.1 w.2.1=false then 67 else 0:=by
   unfold joinE
   rw[show(rowR l).2.2.2.1=fld l 1 from rfl,hH]
   rfl
  by_cases q1:hls=false∨hn≠w.2.2
  ·rw[hst,hj,if_pos q1,if_pos (by decide)]at hfo
   have hfo:=hfo.symm
   have hne:¬(61:Int)=0:=by decide
   cases hls
   ·refine run_ok (Cs:=[rowsScan,rowsHalf]) (stp:=[]) (inl:=[36,38]) (unr:=false) (cons_ok rowsScan_ok (cons_ok rowsHalf_ok nil_ok)) 200 _ _ _ _ ?_
    simp(maxSteps:=4000000)only[go_sem,reduceIte,reduceCtorEq,Z0,Z1,Z2,Z3,Z4,Z5,Z6,Z7,Z8,Z9,ZA,ZB,ZC,ZD,wtC,dl,cA,k0,k3,dE,hv,rowR,hH,oneN,bIPf36,nEPf36,Tryz.f36,bIPf38,nEPf38,Tryz.f38,rowsScan,rowsHalf]
    (repeat' first|apply And.intro|intro _|(show staB _ _=true;kernel_rfl)|(show dynB _ _=true;kernel_rfl)|(show dynP _ _ _=true;kernel_rfl))
    all_goals try first|contradiction|omega|exact hk|exact hk _
    refine RetE.mk (fun h=>?_) (fun _=>?_)
    ·exfalso
     have h2:rowReadP (file,t,())∧(rowsV t).1=0:=h
     rw[hfo]at h2
     exact hne h2.2
    show RetX _ _ rowReadX (file,t,()) _
    simp(maxSteps:=4000000)only[go_sem,reduceIte,reduceCtorEq,Z0,Z1,Z2,Z3,Z4,Z5,Z6,Z7,Z8,Z9,ZA,ZB,ZC,ZD,rowReadX,hfo,oneN,rowsScan,rowsHalf]
    (repeat' first|apply And.intro|intro _|(show staB _ _=true;kernel_rfl)|(show dynB _ _=true;kernel_rfl)|(show dynP _ _ _=true;kernel_rfl))
    exact⟨_,rfl,by rfl⟩
   ·have dn:decide (hn=w.2.2)=false:=decide_eq_false (q1.resolve_left (by simp))
    refine run_ok (Cs:=[rowsScan,rowsHalf]) (stp:=[]) (inl:=[36,38]) (unr:=false) (cons_ok rowsScan_ok (cons_ok rowsHalf_ok nil_ok)) 200 _ _ _ _ ?_
    simp(maxSteps:=4000000)only[go_sem,reduceIte,reduceCtorEq,Z0,Z1,Z2,Z3,Z4,Z5,Z6,Z7,Z8,Z9,ZA,ZB,ZC,ZD,wtC,dl,cA,k0,k3,dE,hv,rowR,hH,dn,oneN,bIPf36,nEPf36,Tryz.f36,bIPf38,nEPf38,Tryz.f38,rowsScan,rowsHalf]
    (repeat' first|apply And.intro|intro _|(show staB _ _=true;kernel_rfl)|(show dynB _ _=true;kernel_rfl)|(show dynP _ _ _=true;kernel_rfl))
    all_goals try first|contradiction|omega|exact hk|exact hk _
    refine RetE.mk (fun h=>?_) (fun _=>?_)
    ·exfalso
     have h2:rowReadP (file,t,())∧(rowsV t).1=0:=h
     rw[hfo]at h2
     exact hne h2.2
    show RetX _ _ rowReadX (file,t,()) _
    simp(maxSteps:=4000000)only[go_sem,reduceIte,reduceCtorEq,Z0,Z1,Z2,Z3,Z4,Z5,Z6,Z7,Z8,Z9,ZA,ZB,ZC,ZD,rowReadX,hfo,oneN,rowsScan,rowsHalf]
    (repeat' first|apply And.intro|intro _|(show staB _ _=true;kernel_rfl)|(show dynB _ _=true;kernel_rfl)|(show dynP _ _ _=true;kernel_rfl))
    exact⟨_,rfl,by rfl⟩
  have q2:hls=true∧hn=w.2.2:=⟨by
   cases hls
   ·exact(q1 (.inl rfl)).elim
   ·rfl,Classical.byContradiction fun h=>q1 (.inr h)⟩
  obtain⟨rfl,q3⟩:=q2
  have dn:decide (hn=w.2.2)=true:=decide_eq_true q3
  rw[if_neg q1]at hj
  by_cases hR:hexV (fld l 0)≤w.1.2.1
  ·have dR:decide (hexV (fld l 0)≤w.1.2.1)=true:=decide_eq_true hR
   rw[hst,hj,if_pos hR,if_pos (by decide)]at hfo
   have hfo:=hfo.symm
   have hne:¬(62:Int)=0:=by decide
   refine run_ok (Cs:=[rowsScan,rowsHalf]) (stp:=[]) (inl:=[36,38]) (unr:=false) (cons_ok rowsScan_ok (cons_ok rowsHalf_ok nil_ok)) 200 _ _ _ _ ?_
   simp(maxSteps:=4000000)only[go_sem,reduceIte,reduceCtorEq,Z0,Z1,Z2,Z3,Z4,Z5,Z6,Z7,Z8,Z9,ZA,ZB,ZC,ZD,wtC,dl,cA,k0,k3,dE,hv,rowR,hH,dn,dR,oneN,bIPf36,nEPf36,Tryz.f36,bIPf38,nEPf38,Tryz.f38,rowsScan,rowsHalf]
   (repeat' first|apply And.intro|intro _|(show staB _ _=true;kernel_rfl)|(show dynB _ _=true;kernel_rfl)|(show dynP _ _ _=true;kernel_rfl))
   all_goals try first|contradiction|omega|exact hk|exact hk _
   refine RetE.mk (fun h=>?_) (fun _=>?_)
   ·exfalso
    have h2:rowReadP (file,t,())∧(rowsV t).1=0:=h
    rw[hfo]at h2
    exact hne h2.2
   show RetX _ _ rowReadX (file,t,()) _
   simp(maxSteps:=4000000)only[go_sem,reduceIte,reduceCtorEq,Z0,Z1,Z2,Z3,Z4,Z5,Z6,Z7,Z8,Z9,ZA,ZB,ZC,ZD,rowReadX,hfo,oneN,rowsScan,rowsHalf]
   (repeat' first|apply And.intro|intro _|(show staB _ _=true;kernel_rfl)|(show dynB _ _=true;kernel_rfl)|(show dynP _ _ _=true;kernel_rfl))
   exact⟨_,rfl,by rfl⟩
  have dR:decide (hexV (fld l 0)≤w.1.2.1)=false:=decide_eq_false hR
  rw[if_neg hR]at hj
  refine run_ok (Cs:=[rowsScan,rowsHalf]) (stp:=[]) (inl:=[36,38]) (unr:=false) (cons_ok rowsScan_ok (cons_ok rowsHalf_ok nil_ok)) 200 _ _ _ _ ?_
  simp(maxSteps:=4000000)only[go_sem,reduceIte,reduceCtorEq,Z0,Z1,Z2,Z3,Z4,Z5,Z6,Z7,Z8,Z9,ZA,ZB,ZC,ZD,wtC,dl,cA,k0,k3,dE,hv,rowR,hH,dn,dR,oneN,bIPf36,nEPf36,Tryz.f36,bIPf38,nEPf38,Tryz.f38,rowsScan,rowsHalf]
  (repeat' first|apply And.intro|intro _|(show staB _ _=true;kernel_rfl)|(show dynB _ _=true;kernel_rfl)|(show dynP _ _ _=true;kernel_rfl))
  all_goals try first|contradiction|omega|exact hk|exact hk _
  refine OkQ.loop (α:=Nat) [1,2,3,7,9,10,11,12,13,14,15,16,17,18,19,20,21,22,23,24,25,26,27,28,29,30,31,32,33,34,35,36,37,38,39,40,41,42,43,44,45,46,47,48,49,50,51,52,53,54,55,56,57,58,59,60,61,62,63,64,65,66,67] (fun j=>[(11,.s (.int .i64 (j:Int)))]) (fun _=>[]) (fun j=>2≤j∧j≤15∧∀k,2≤k→k<j→l.2.2.2.1.getD k []=w.2.1.getD k []) (fun j=>15 - j) 2 ⟨Nat.le_refl _,by omega,fun k h1 h2=>by omega⟩ ?_ fun j hjj=>?_
  ·simp(maxSteps:=4000000)only[go_sem,reduceIte,reduceCtorEq,Z0,Z1,Z2,Z3,Z4,Z5,Z6,Z7,Z8,Z9,ZA,ZB,ZC,ZD,rowsScan,rowsHalf]
   all_goals first|rfl|exact⟨rfl,rfl⟩|exact⟨⟨rfl,rfl⟩,rfl⟩|fail
  obtain⟨j2,j15,hall⟩:=hjj
  rcases Nat.lt_or_ge j 15 with jl|jg
  ·have dj:decide ((j:Int)<15)=true:=decide_eq_true (by omega)
   have hwj:wr .i64 ((j:Int)+1)=((j+1:Nat):Int):=wr_succ (by omega)
   by_cases hq:l.2.2.2.1.getD j []=w.2.1.getD j []
   ·have dq:decide (l.2.2.2.1.getD j []=w.2.1.getD j [])=true:=decide_eq_true hq
    refine run_ok (Cs:=[rowsScan,rowsHalf]) (stp:=[]) (inl:=[36,38]) (unr:=false) (cons_ok rowsScan_ok (cons_ok rowsHalf_ok nil_ok)) 60 _ _ _ _ ?_
    simp(maxSteps:=4000000)only[go_sem,reduceIte,reduceCtorEq,Z0,Z1,Z2,Z3,Z4,Z5,Z6,Z7,Z8,Z9,ZA,ZB,ZC,ZD,dj,dq,hwj,bIPf36,nEPf36,Tryz.f36,bIPf38,nEPf38,Tryz.f38,rowsScan,rowsHalf]
    (repeat' first|apply And.intro|intro _|(show staB _ _=true;kernel_rfl)|(show dynB _ _=true;kernel_rfl)|(show dynP _ _ _=true;kernel_rfl))
    all_goals try first|contradiction|omega
    refine⟨j+1,⟨by omega,by omega,fun k h1 h2=>?_⟩,by omega,?_⟩
    ·by_cases hkj:k=j
     ·rw[hkj];exact hq
     ·exact hall k h1 (by omega)
    ·first|rfl|fail
   ·have dq:decide (l.2.2.2.1.getD j []=w.2.1.getD j [])=false:=decide_eq_false hq
    have hpF:pairB l.2.2.2.1 w.2.1=false:=by
     rw[←Bool.not_eq_true]
     exact fun h=>hq (pair_at h j2 jl)
    rw[hst,hj,if_pos hpF,if_pos (by decide)]at hfo
    have hfo:=hfo.symm
    have hne:¬(67:Int)=0:=by decide
    refine run_ok (Cs:=[rowsScan,rowsHalf]) (stp:=[]) (inl:=[36,38]) (unr:=false) (cons_ok rowsScan_ok (cons_ok rowsHalf_ok nil_ok)) 200 _ _ _ _ ?_
    simp(maxSteps:=4000000)only[go_sem,reduceIte,reduceCtorEq,Z0,Z1,Z2,Z3,Z4,Z5,Z6,Z7,Z8,Z9,ZA,ZB,ZC,ZD,dj,dq,oneN,bIPf36,nEPf36,Tryz.f36,bIPf38,nEPf38,Tryz.f38,rowsScan,rowsHalf]
    (repeat' first|apply And.intro|intro _|(show staB _ _=true;kernel_rfl)|(show dynB _ _=true;kernel_rfl)|(show dynP _ _ _=true;kernel_rfl))
    all_goals try first|contradiction|omega
    refine RetE.mk (fun h=>?_) (fun _=>?_)
    ·exfalso
     have h2:rowReadP (file,t,())∧(rowsV t).1=0:=h
     rw[hfo]at h2
     exact hne h2.2
    show RetX _ _ rowReadX (file,t,()) _
    simp(maxSteps:=4000000)only[go_sem,reduceIte,reduceCtorEq,Z0,Z1,Z2,Z3,Z4,Z5,Z6,Z7,Z8,Z9,ZA,ZB,ZC,ZD,rowReadX,hfo,oneN,rowsScan,rowsHalf]
    (repeat' first|apply And.intro|intro _|(show staB _ _=true;kernel_rfl)|(show dynB _ _=true;kernel_rfl)|(show dynP _ _ _=true;kernel_rfl))
    exact⟨_,rfl,by rfl⟩
  ·have e:j=15:=by omega
   subst e
   have hpT:pairB l.2.2.2.1 w.2.1=true:=pair_of fun k h1 h2=>hall k h1 h2
   have hj0:joinE w l (rowR l)=0:=by rw[hj,if_neg (by rw[hpT];simp)]
   rw[hst,hj0,if_neg (by decide)]at hfo
   have h1:stepO out (some w) l=out++[joinR w (rowR l)]:=rfl
   have h2:stepW (some w) l=none:=rfl
   rw[h1,h2]at hfo
   have hla:=last_app out (joinR w (rowR l))
   refine run_ok (Cs:=[rowsScan,rowsHalf]) (stp:=[]) (inl:=[36,38]) (unr:=false) (cons_ok rowsScan_ok (cons_ok rowsHalf_ok nil_ok)) 200 _ _ _ _ ?_
   simp(maxSteps:=4000000)only[go_sem,reduceIte,reduceCtorEq,Z0,Z1,Z2,Z3,Z4,Z5,Z6,Z7,Z8,Z9,ZA,ZB,ZC,ZD,hw,bIPf36,nEPf36,Tryz.f36,bIPf38,nEPf38,Tryz.f38,rowsScan,rowsHalf]
   (repeat' first|apply And.intro|intro _|(show staB _ _=true;kernel_rfl)|(show dynB _ _=true;kernel_rfl)|(show dynP _ _ _=true;kernel_rfl))
   all_goals try first|contradiction|omega
   refine backK.mk (i+1,out++[joinR w (rowR l)],none) ⟨by dsimp only;omega,by simp;omega,hfo,fun w h=>by cases h⟩ (by dsimp only;omega) ?_
   simp(maxSteps:=4000000)only[go_sem,reduceIte,reduceCtorEq,Z0,Z1,Z2,Z3,Z4,Z5,Z6,Z7,Z8,Z9,ZA,ZB,ZC,ZD,wtC,hla,rowsScan,rowsHalf]
   have hJ:joinR w (rowR l)=(w.1.1,w.1.2.1,hexV (fld l 0),hn,w.1.2.2.2.2):=by
    unfold joinR
    rw[show(rowR l).2.2.2.1=fld l 1 from rfl,hH]
    rfl
   first|exact⟨rfl,by rw[hJ]⟩|fail
theorem rowRead_ok:rowRead.Ok Tryz.prog:=rowRead_e.1
theorem rowReadX_ok:rowReadX.Ok Tryz.prog:=rowRead_e.2
end Go.Proofs.YtcbmonndkjihkaaGreatDoor.Sx
namespace Go.Proofs.YtcbmonndkjihkaaGreatDoor.Sx
attribute [local irreducible] OkQ Ok
set_option linter.unusedSimpArgs false
set_option linter.unusedVariables false
open Nat renaming reduceEqDiff→Z0,reduceBEq→Z1,reduceAdd→Z2,reduceSub→Z3,reduceMul→Z4,reduceLeDiff→Z5
open Int renaming reduceEq→Z6,reduceLE→Z7,reduceLT→Z8,reduceNeg→Z9,reduceToNat→ZA,reduceAdd→ZB,reduceSub→ZC,reduceMul→ZD
set_option maxRecDepth 8000
def inRow(r:Int)(x:RowD):Bool:=decide (x.2.1≤r)&&decide (r≤x.2.2.1)
def findV(l:List RowD)(r:Int):Option RowD:=l.find? (inRow r)
noncomputable def rowsFind:Con:=⟨21,[(false,tRows),(false,.int .i32)],[(true,tRow),(false,.bool)],fun _=>True,fun x=>((findV x.1 x.2.1).getD rowZ,(findV x.1 x.2.1).isSome,()),false⟩
theorem find_step{l:List RowD}{r:Int}{i:Nat}(hi:i<l.length):findV (l.drop i) r=if inRow r (l.getD i rowZ)=true then some (l.getD i rowZ)else findV (l.drop (i+1)) r:=by
 have e:l.getD i rowZ=l[i]:=by simp[List.getD_eq_getElem?_getD,hi]
 rw[List.drop_eq_getElem_cons hi,findV,List.find?_cons,e]
 cases inRow r l[i]<;>simp[findV]
theorem find_end{l:List RowD}{r:Int}{i:Nat}(hi:l.length≤i):findV (l.drop i) r=none:=by rw[List.drop_eq_nil_of_le hi];rfl
theorem rowsFind_ok:rowsFind.Ok Tryz.prog:=by
 refine con_q Tryz.func21 rfl (by decide) (fun x hx hp=>go0 nil_ok 400 ?_) (by decide)
 obtain⟨(xs:List RowD),(r:Int),⟨⟩⟩:=x
 have hsz:xs.length*64≤140737488355328:=hx.1.1
 clear hx hp
 simp(maxSteps:=4000000)only[go_sem,reduceIte,reduceCtorEq,Z0,Z1,Z2,Z3,Z4,Z5,Z6,Z7,Z8,Z9,ZA,ZB,ZC,ZD,Tryz.f21,rowsFind]
 refine OkQ.loop (α:=Nat) [0,2,3,5,6,7,10,11,12,13,14,15,16,17,18,19,20,21,22,23,24,25,26] (fun i=>[(10,.s (.int .i64 (i:Int)))]) (fun _=>[]) (fun i=>i≤xs.length∧findV xs r=findV (xs.drop i) r) (fun i=>xs.length - i) 0 ⟨by simp,by simp⟩ ?_ fun i hi=>?_
 ·simp(maxSteps:=4000000)only[go_sem,reduceIte,reduceCtorEq,Z0,Z1,Z2,Z3,Z4,Z5,Z6,Z7,Z8,Z9,ZA,ZB,ZC,ZD]
  rfl
 ·refine go0 nil_ok 400 ?_
  simp(maxSteps:=4000000)only[go_sem,reduceIte,reduceCtorEq,Z0,Z1,Z2,Z3,Z4,Z5,Z6,Z7,Z8,Z9,ZA,ZB,ZC,ZD,Tryz.f21,rowsFind]
  obtain⟨hi,ht⟩:=hi
  (repeat' first|apply And.intro|intro _)
  all_goals try omega
  all_goals first
   |(have e:findV xs r=some (xs.getD i rowZ):=by
      rw[ht,find_step (by omega),if_pos (by simp only[inRow,Bool.and_eq_true,decide_eq_true_eq];assumption)]
     rw[e];rfl)
   |(have e:findV xs r=none:=by
      rw[ht];exact find_end (by omega)
     rw[e];rfl)
   |(refine⟨i+1,⟨by omega,?_⟩,by omega,by rw[wr_i64 (by omega) (by omega)];simp⟩
     rw[ht,find_step (by omega),if_neg (by simp only[inRow,Bool.and_eq_true,decide_eq_true_eq,Classical.not_and_iff_not_or_not];assumption)])
   |fail
def rA:RowD:=(1,65,65,[76,65,84,73,78,32,67,65,80,73,84,65,76,32,76,69,84,84,69,82,32,65],[76,117],0,1,0,false,())
def rB:RowD:=(2,13312,19893,[88],[76,111],0,2,0,true,())
def txA:List UInt8:=(([48,48,52,49,59,76,65,84,73,78,32,67,65,80,73,84,65,76,32,76,69,84,84,69,82,32,65,59,76,117,59,48,59,76,59,59,59,59,59,78,59,59,59,59,48,48,54,49,59,10,51,52,48,48,59,60,88,44]:List UInt8).append [32,70,105,114,115,116,62,59,76,111,59,48,59,82,59,59,59,59,59,89,59,59,59,59,59,10,52,68,66,53,59,60,88,44,32,76,97,115,116,62,59,76,111,59,48,59,82,59,59,59,59,59,89,59,59,59,59,59,10])
def txB:List UInt8:=([10,48,48,52,49,59,65,59,76,117,59,48,59,90,59,59,59,59,59,78,59,59,59,59,59,10]:List UInt8)
theorem rv1:rowsV txA=(0,0,[rA,rB]):=by kernel_rfl
theorem rv2:rowsV txB=(50,2,[]):=by kernel_rfl
theorem fv1:findV [rA,rB] 13568=some rB:=by kernel_rfl
theorem asOk:hitB asL 16 44 46=true:=by decide
theorem asAll:AsHit Tryz.prog 16 44 46∧∀args w,(callFunc 16 args).run Tryz.prog w= .ok (.enter 16 args) w:=Hits.ok _ _ _ asOk
def rowRead1:Con:=⟨14,[(false,.str),(false,.str)],[(false,tRows),(false,.opq)],fun x=>(x.2.1:List UInt8)=txA,fun _=>([rA,rB],.nilIface,()),false⟩
theorem rowRead1_ok:rowRead1.Ok Tryz.prog where
 enters:=rowRead_ok.enters
 calls S w vs x hS hg har hwf hp i:=by
  have hp:(x.2.1:List UInt8)=txA:=hp
  have e:rowsV x.2.1=(0,0,[rA,rB]):=by rw[hp];exact rv1
  have h:=rowRead_ok.calls S w vs x hS hg har hwf ⟨(by show List.length x.2.1≤1000000000;rw[hp];decide+kernel),(by show(rowsV x.2.1).1=0;rw[e])⟩ i
  have e2:rowRead.F x=rowRead1.F x:=by
   show((rowsV x.2.1).2.2,Value.nilIface,())=([rA,rB],Value.nilIface,())
   rw[e]
  have h:Calls Tryz.prog 14 vs.toArray w (ResPost S [(false,tRows),(false,.opq)] (rowRead.F x) i w):=h
  rw[e2]at h
  exact h
def rowRead1X:XCon:=⟨14,[(false,.str),(false,.str)],[(false,[.nils])],44,48,fun x=>(x.1:List UInt8)=[102]∧(x.2.1:List UInt8)=txB,fun _=>[.str [102],.int .i64 2,.int .i64 50]⟩
theorem rowRead1X_ok:rowRead1X.Ok Tryz.prog where
 enters:=rowReadX_ok.enters
 calls S w vs x hS hg har hwf hp:=by
  obtain⟨h1,h2⟩:(x.1:List UInt8)=[102]∧(x.2.1:List UInt8)=txB:=hp
  have e:rowsV x.2.1=(50,2,[]):=by rw[h2];exact rv2
  have h:=rowReadX_ok.calls S w vs x hS hg har hwf ⟨(by show List.length x.2.1≤1000000000;rw[h2];decide+kernel),(by show¬(rowsV x.2.1).1=0;rw[e];decide)⟩
  have e2:rowReadX.F x=rowRead1X.F x:=by
   show [S1.str x.1,S1.int .i64 (rowsV x.2.1).2.1,S1.int .i64 (rowsV x.2.1).1]=[.str [102],.int .i64 2,.int .i64 50]
   rw[e,h1]
  unfold XCon.Post at h ⊢
  rw[e2]at h
  exact h
def awake06:Con:=⟨13,[],[(false,.bool)],fun _=>True,fun _=>(true,()),false⟩
set_option maxHeartbeats 4000000 in
theorem awake06_ok:awake06.Ok Tryz.prog:=by
 refine con_q Tryz.func13 rfl (by decide) (fun x hx hp=>go0 (cons_ok rowRead1_ok (cons_ok rowsFind_ok nil_ok)) 0 ?_) (by decide)
 clear hx hp
 have gB:([rA,rB]:List RowD).getD 1 (0,0,0,[],[],0,0,0,false,())=rB:=rfl
 have hl:([rA,rB]:List RowD).length=2:=rfl
 have d0:decide (((2:Nat):Int)=2)=true:=by decide
 have d1:decide (([88]:List UInt8)=[88])=true:=by decide
 have d2:decide ((19893:Int)=19893)=true:=by decide
 have d3:decide ((2:Int)=2)=true:=by decide
 have d4:decide ((13312:Int)=13312)=true:=by decide
 have d5:decide ((50:Int)=50)=true:=by decide
 refine go0 (cons_ok rowRead1_ok (cons_ok rowsFind_ok nil_ok)) 9 ?_
 simp(maxSteps:=4000000)only[go_sem,reduceIte,reduceCtorEq,Z0,Z1,Z2,Z3,Z4,Z5,Z6,Z7,Z8,Z9,ZA,ZB,ZC,ZD,Tryz.f13,awake06,oneN,rowRead1,rowsFind]
 (repeat' first|apply And.intro|intro _)
 all_goals try first|contradiction|omega|exact trivial|(show _=txA;rfl)
 dsimp only
 have b1:rB.2.1=13312:=rfl
 have b2:rB.2.2.1=19893:=rfl
 have b3:rB.2.2.2.1=[88]:=rfl
 have b6:rB.2.2.2.2.2.2.1=2:=rfl
 have b8:rB.2.2.2.2.2.2.2.2.1=true:=rfl
 refine run_ok (Cs:=[rowRead1,rowsFind]) (stp:=[4]) (inl:=[]) (unr:=false) (cons_ok rowRead1_ok (cons_ok rowsFind_ok nil_ok)) 70 _ _ _ _ ?_
 simp(maxSteps:=4000000)only[go_sem,reduceIte,reduceCtorEq,Z0,Z1,Z2,Z3,Z4,Z5,Z6,Z7,Z8,Z9,ZA,ZB,ZC,ZD,gB,hl,d0,d1,d2,d3,b2,b3,b6,b8,oneN,rowRead1,rowsFind]
 (repeat' first|apply And.intro|intro _)
 all_goals try first|contradiction|omega|exact trivial
 refine go0 (cons_ok rowsFind_ok nil_ok) 40 ?_
 simp(maxSteps:=4000000)only[go_sem,reduceIte,reduceCtorEq,Z0,Z1,Z2,Z3,Z4,Z5,Z6,Z7,Z8,Z9,ZA,ZB,ZC,ZD,fv1,Option.getD_some,Option.isSome_some,oneN,rowsFind]
 (repeat' first|apply And.intro|intro _)
 all_goals try first|contradiction|omega|exact trivial
 refine OkQ.xcall rowRead1X_ok ([102],txB,()) rfl (.inl rfl) rfl (by trivial) rfl ⟨rfl,rfl⟩ ?_
 refine run_ok (Cs:=[rowsFind]) (stp:=[7]) (inl:=[]) (unr:=false) (cons_ok rowsFind_ok nil_ok) 30 _ _ _ _ ?_
 simp(maxSteps:=4000000)only[go_sem,reduceIte,reduceCtorEq,Z0,Z1,Z2,Z3,Z4,Z5,Z6,Z7,Z8,Z9,ZA,ZB,ZC,ZD,rowRead1X,oneN,rowsFind]
 (repeat' first|apply And.intro|intro _)
 all_goals try first|contradiction|omega|exact trivial
 refine go0 (cons_ok rowsFind_ok nil_ok) 11 ?_
 simp(maxSteps:=4000000)only[go_sem,reduceIte,reduceCtorEq,Z0,Z1,Z2,Z3,Z4,Z5,Z6,Z7,Z8,Z9,ZA,ZB,ZC,ZD,b1,d4,oneN,rowsFind]
 (repeat' first|apply And.intro|intro _)
 all_goals try first|contradiction|omega|exact trivial
 refine OkQ.asHit (o1:=2) (o2:=3) (off:=0) asAll.1 asAll.2 rfl (.inr ⟨_,_,rfl,by kernel_rfl⟩) rfl rfl rfl (by refine⟨?_,?_,?_⟩<;>first|trivial|exact⟨rfl,trivial⟩) rfl rfl ?_
 refine go0 (cons_ok rowsFind_ok nil_ok) 60 ?_
 simp(maxSteps:=4000000)only[go_sem,reduceIte,reduceCtorEq,Z0,Z1,Z2,Z3,Z4,Z5,Z6,Z7,Z8,Z9,ZA,ZB,ZC,ZD,oneN,d3,d5,awake06,rowsFind]
 (repeat' first|apply And.intro|intro _)
 all_goals first|contradiction|omega|rfl|trivial|fail
end Go.Proofs.YtcbmonndkjihkaaGreatDoor.Sx
namespace Go.Proofs.YtcbmonndkjihkaaGreatDoor.Sx
attribute [local irreducible] OkQ Ok
set_option linter.unusedSimpArgs false
set_option linter.unusedVariables false
open Nat renaming reduceEqDiff→Z0,reduceBEq→Z1,reduceAdd→Z2,reduceSub→Z3,reduceMul→Z4,reduceLeDiff→Z5
open Int renaming reduceEq→Z6,reduceLE→Z7,reduceLT→Z8,reduceNeg→Z9,reduceToNat→ZA,reduceAdd→ZB,reduceSub→ZC,reduceMul→ZD
set_option maxRecDepth 8000
def digT:List UInt8:=[48,49,50,51,52,53,54,55,56,57,65,66,67,68,69,70]
theorem digs_at:∀i,i<16→hexD (digT.getD i 0)=(i:Int):=by decide+kernel
theorem digs_no{b:UInt8}(h:∀j,j<16→digT.getD j 0≠b):hexD b= -1:=by
 have key:∀n,n<256→hexD (UInt8.ofNat n)= -1∨∃j,j<16∧digT.getD j 0=UInt8.ofNat n:=by decide+kernel
 rcases key b.toNat b.toNat_lt with h1|⟨j,hj,h1⟩
 ·simpa using h1
 ·exact(h j hj (by simpa using h1)).elim
theorem byteQ(a d:UInt8):((a.toNat:Int)=(d.toNat:Int))=(a=d):=propext ⟨fun h=>UInt8.toNat_inj.1 (by omega),fun h=>by rw[h]⟩
def refDigit:Con:=⟨59,[(false,.int .u8)],[(false,.int .i64)],fun _=>True,fun x=>(hexD (UInt8.ofNat (x.1:Int).toNat),()),false⟩
set_option maxHeartbeats 1000000 in
theorem refDigit_ok:refDigit.Ok Tryz.prog:=by
 refine con_q Tryz.func59 rfl (by decide) (fun x hx hp=>go0 nil_ok 400 ?_) (by decide)
 obtain⟨(c:Int),⟨⟩⟩:=x
 have hc:0≤c∧c≤255:=by
  have:IntKind.u8.has c:=hx.1
  simpa[IntKind.has,IntKind.min,IntKind.max,IntKind.signed,IntKind.bits]using this
 obtain⟨d,hd⟩:∃d:UInt8,d=UInt8.ofNat c.toNat:=⟨_,rfl⟩
 have hcd:c=(d.toNat:Int):=by
  rw[hd]
  simp
  omega
 clear hx hp
 have hT:∀i,([48,49,50,51,52,53,54,55,56,57,65,66,67,68,69,70]:List UInt8).getD i 0=digT.getD i 0:=fun _=>rfl
 simp(maxSteps:=4000000)only[go_sem,reduceIte,reduceCtorEq,Z0,Z1,Z2,Z3,Z4,Z5,Z6,Z7,Z8,Z9,ZA,ZB,ZC,ZD,Tryz.f59,refDigit]
 rw[←hd]
 (repeat' first|apply And.intro|intro _)
 refine OkQ.loop (α:=Nat) [1,2,3,4,5,6,7,8,9,10,11,12] (fun i=>[(3,.s (.int .i64 (i:Int)))]) (fun _=>[]) (fun i=>i≤16∧∀j,j<i→digT.getD j 0≠d) (fun i=>16 - i) 0 ⟨by omega,fun j h=>by omega⟩ ?_ fun i hi=>?_
 ·simp(maxSteps:=4000000)only[go_sem,reduceIte,reduceCtorEq,Z0,Z1,Z2,Z3,Z4,Z5,Z6,Z7,Z8,Z9,ZA,ZB,ZC,ZD]
  all_goals first|rfl|fail
 obtain⟨hi,h0⟩:=hi
 rcases Nat.lt_or_ge i 16 with hlt|hge
 ·have dl:decide ((i:Int)<16)=true:=decide_eq_true (by omega)
  have hw:wr .i64 ((i:Int)+1)=((i+1:Nat):Int):=wr_succ (by omega)
  by_cases hb:digT.getD i 0=d
  ·have db:decide (((digT.getD i 0).toNat:Int)=c)=true:=decide_eq_true (by rw[hcd,byteQ];exact hb)
   have e:=digs_at i hlt
   rw[hb]at e
   refine go0 nil_ok 400 ?_
   simp(maxSteps:=4000000)only[go_sem,reduceIte,reduceCtorEq,Z0,Z1,Z2,Z3,Z4,Z5,Z6,Z7,Z8,Z9,ZA,ZB,ZC,ZD,dl,hT,db,hw,e]
   (repeat' first|apply And.intro|intro _)
   all_goals first|contradiction|omega|rfl|(simp;omega)|fail
  ·have db:decide (((digT.getD i 0).toNat:Int)=c)=false:=decide_eq_false (by rw[hcd,byteQ];exact hb)
   refine go0 nil_ok 400 ?_
   simp(maxSteps:=4000000)only[go_sem,reduceIte,reduceCtorEq,Z0,Z1,Z2,Z3,Z4,Z5,Z6,Z7,Z8,Z9,ZA,ZB,ZC,ZD,dl,hT,db,hw]
   (repeat' first|apply And.intro|intro _)
   all_goals try first|contradiction|omega|(simp;omega)
   refine⟨i+1,⟨by omega,fun j hj=>?_⟩,by omega,rfl⟩
   by_cases hji:j=i
   ·rw[hji];exact hb
   ·exact h0 j (by omega)
 ·have e:i=16:=by omega
  subst e
  have hn:=digs_no h0
  refine go0 nil_ok 400 ?_
  simp(maxSteps:=4000000)only[go_sem,reduceIte,reduceCtorEq,Z0,Z1,Z2,Z3,Z4,Z5,Z6,Z7,Z8,Z9,ZA,ZB,ZC,ZD,hn]
  (repeat' first|apply And.intro|intro _)
  all_goals first|contradiction|omega|rfl|fail
theorem hexBad_zero{s:List UInt8}(h:4<s.length∧s.getD 0 0=48):hexBad s=true:=by simp only[hexBad,h.1,h.2];simp
def refHex:Con:=⟨29,[(false,.str)],[(false,.int .i32),(false,.int .i64)],fun _=>True,fun x=>(hexV x.1,hexE x.1,()),false⟩
set_option maxHeartbeats 1000000 in
theorem refHex_ok:refHex.Ok Tryz.prog:=by
 refine con_q Tryz.func29 rfl (by decide) (fun x hx hp=>go0 (cons_ok refDigit_ok nil_ok) 0 ?_) (by decide)
 obtain⟨(s:List UInt8),⟨⟩⟩:=x
 have hz:s.length≤140737488355328:=hx.1
 clear hx hp
 by_cases h1:s.length<4
 ·have d1:decide ((s.length:Int)<4)=true:=decide_eq_true (by omega)
  have hb:hexBad s=true:=by simp[hexBad,h1]
  obtain⟨b1,b2⟩:=hex_bad hb
  refine go0 (cons_ok refDigit_ok nil_ok) 60 ?_
  simp(maxSteps:=4000000)only[go_sem,reduceIte,reduceCtorEq,Z0,Z1,Z2,Z3,Z4,Z5,Z6,Z7,Z8,Z9,ZA,ZB,ZC,ZD,Tryz.f29,refHex,d1,refDigit]
  (repeat' first|apply And.intro|intro _)
  all_goals first|contradiction|omega|exact b1|exact b2|fail
 have d1:decide ((s.length:Int)<4)=false:=decide_eq_false (by omega)
 by_cases h2:6<s.length
 ·have d2:decide (6<(s.length:Int))=true:=decide_eq_true (by omega)
  have hb:hexBad s=true:=by simp[hexBad,h2]
  obtain⟨b1,b2⟩:=hex_bad hb
  refine go0 (cons_ok refDigit_ok nil_ok) 60 ?_
  simp(maxSteps:=4000000)only[go_sem,reduceIte,reduceCtorEq,Z0,Z1,Z2,Z3,Z4,Z5,Z6,Z7,Z8,Z9,ZA,ZB,ZC,ZD,Tryz.f29,refHex,d1,d2,refDigit]
  (repeat' first|apply And.intro|intro _)
  all_goals first|contradiction|omega|exact b1|exact b2|fail
 have d2:decide (6<(s.length:Int))=false:=decide_eq_false (by omega)
 refine go0 (cons_ok refDigit_ok nil_ok) 400 ?_
 simp(maxSteps:=4000000)only[go_sem,reduceIte,reduceCtorEq,Z0,Z1,Z2,Z3,Z4,Z5,Z6,Z7,Z8,Z9,ZA,ZB,ZC,ZD,Tryz.f29,refHex,d1,d2,refDigit]
 (repeat' first|apply And.intro|intro _)
 all_goals try first|contradiction|omega
 refine OkQ.loop (α:=Nat) [1,2,3,4,5,6,7,8,9,10,11,12,13,14,15,16,17,18,19,20,21,22,23,24,25,26,27,28,29,30,31,32,33,34,35,36,37,38,39,40,41,42,43,44] (fun i=>[(4,.s (.int .i64 (hexR s i))),(5,.s (.int .i64 (i:Int)))]) (fun _=>[]) (fun i=>i≤s.length∧∀j,j<i→0≤hexD (s.getD j 0)) (fun i=>s.length - i) 0 ⟨Nat.zero_le _,fun j hj=>by omega⟩ ?_ fun i hi=>?_
 ·simp(maxSteps:=4000000)only[go_sem,reduceIte,reduceCtorEq,Z0,Z1,Z2,Z3,Z4,Z5,Z6,Z7,Z8,Z9,ZA,ZB,ZC,ZD,refDigit]
  all_goals first|rfl|exact⟨rfl,rfl⟩|fail
 obtain⟨hi,hall⟩:=hi
 obtain⟨r1,r2⟩:=hexR_in i hall
 have hp:(16:Int) ^ i≤16 ^ 6:=by
  have:(16:Nat) ^ i≤16 ^ 6:=Nat.pow_le_pow_right (by decide) (by omega)
  exact_mod_cast this
 have e6:(16:Int) ^ 6=16777216:=by decide
 have hB:∀b:UInt8,UInt8.ofNat b.toNat=b:=fun b=>by simp
 have hd:=hexD_le (s.getD i 0)
 rcases Nat.lt_or_ge i s.length with hlt|hge
 ·have dl:decide ((i:Int)<(s.length:Int))=true:=decide_eq_true (by omega)
  have hw:wr .i64 ((i:Int)+1)=((i+1:Nat):Int):=wr_succ (by omega)
  by_cases hD:hexD (s.getD i 0)<0
  ·have dD:decide (hexD (s.getD i 0)<0)=true:=decide_eq_true hD
   obtain⟨b1,b2⟩:=hex_bad (hexBad_any hlt hD)
   refine go0 (cons_ok refDigit_ok nil_ok) 400 ?_
   simp(maxSteps:=4000000)only[go_sem,reduceIte,reduceCtorEq,Z0,Z1,Z2,Z3,Z4,Z5,Z6,Z7,Z8,Z9,ZA,ZB,ZC,ZD,dl,Int.toNat_natCast,hB,dD,refDigit]
   (repeat' first|apply And.intro|intro _)
   all_goals first|contradiction|omega|exact b1|exact b2|fail
  ·have dD:decide (hexD (s.getD i 0)<0)=false:=decide_eq_false hD
   have w1:wr .i64 (hexR s i*16)=hexR s i*16:=wr_i64 (by omega) (by omega)
   have w2:wr .i64 (hexR s i*16+hexD (s.getD i 0))=hexR s (i+1):=wr_i64 (by omega) (by omega)
   refine go0 (cons_ok refDigit_ok nil_ok) 400 ?_
   simp(maxSteps:=4000000)only[go_sem,reduceIte,reduceCtorEq,Z0,Z1,Z2,Z3,Z4,Z5,Z6,Z7,Z8,Z9,ZA,ZB,ZC,ZD,dl,Int.toNat_natCast,hB,dD,w1,w2,hw,refDigit]
   (repeat' first|apply And.intro|intro _)
   all_goals try first|contradiction|omega
   refine⟨i+1,⟨by omega,fun j hj=>?_⟩,by omega,rfl,rfl⟩
   by_cases hji:j=i
   ·rw[hji];omega
   ·exact hall j (by omega)
 ·have e:i=s.length:=by omega
  subst e
  have dl:decide ((s.length:Int)<(s.length:Int))=false:=decide_eq_false (by omega)
  have hTo:=hexTo_R s.length (by omega) hall
  by_cases h5:1114111<hexR s s.length
  ·have d5:decide (1114111<hexR s s.length)=true:=decide_eq_true h5
   obtain⟨b1,b2⟩:=hex_bad (hexBad_big (s:=s) (by rw[hTo];exact h5))
   refine go0 (cons_ok refDigit_ok nil_ok) 400 ?_
   simp(maxSteps:=4000000)only[go_sem,reduceIte,reduceCtorEq,Z0,Z1,Z2,Z3,Z4,Z5,Z6,Z7,Z8,Z9,ZA,ZB,ZC,ZD,dl,d5,refDigit]
   (repeat' first|apply And.intro|intro _)
   all_goals first|contradiction|omega|exact b1|exact b2|fail
  ·have d5:decide (1114111<hexR s s.length)=false:=decide_eq_false h5
   have w3:wr .i32 (hexR s s.length)=hexR s s.length:=wri32 (by omega) (by omega)
   have e48:(((s.getD 0 0).toNat:Int)=48)=(s.getD 0 0=48):=byteQ (s.getD 0 0) 48
   by_cases h3:4<s.length∧s.getD 0 0=48
   ·have d3:decide (4<(s.length:Int))=true:=decide_eq_true (by omega)
    have d4:decide (((s.getD 0 0).toNat:Int)=48)=true:=decide_eq_true (by rw[e48];exact h3.2)
    obtain⟨b1,b2⟩:=hex_bad (hexBad_zero h3)
    refine go0 (cons_ok refDigit_ok nil_ok) 400 ?_
    simp(maxSteps:=4000000)only[go_sem,reduceIte,reduceCtorEq,Z0,Z1,Z2,Z3,Z4,Z5,Z6,Z7,Z8,Z9,ZA,ZB,ZC,ZD,dl,d5,d3,d4,refDigit]
    (repeat' first|apply And.intro|intro _)
    all_goals first|contradiction|omega|exact b1|exact b2|fail
   ·obtain⟨b1,b2⟩:=hex_ok (hexBad_no h1 h2 h3 hall (by rw[hTo];exact h5))
    rw[hTo]at b1
    by_cases h4:4<s.length
    ·have d3:decide (4<(s.length:Int))=true:=decide_eq_true (by omega)
     have d4:decide (((s.getD 0 0).toNat:Int)=48)=false:=decide_eq_false (by rw[e48];exact fun h=>h3 ⟨h4,h⟩)
     refine go0 (cons_ok refDigit_ok nil_ok) 400 ?_
     simp(maxSteps:=4000000)only[go_sem,reduceIte,reduceCtorEq,Z0,Z1,Z2,Z3,Z4,Z5,Z6,Z7,Z8,Z9,ZA,ZB,ZC,ZD,dl,d5,d3,d4,w3,refDigit]
     (repeat' first|apply And.intro|intro _)
     all_goals first|contradiction|omega|exact b1|exact b2|fail
    ·have d3:decide (4<(s.length:Int))=false:=decide_eq_false (by omega)
     refine go0 (cons_ok refDigit_ok nil_ok) 400 ?_
     simp(maxSteps:=4000000)only[go_sem,reduceIte,reduceCtorEq,Z0,Z1,Z2,Z3,Z4,Z5,Z6,Z7,Z8,Z9,ZA,ZB,ZC,ZD,dl,d5,d3,w3,refDigit]
     (repeat' first|apply And.intro|intro _)
     all_goals first|contradiction|omega|exact b1|exact b2|fail
end Go.Proofs.YtcbmonndkjihkaaGreatDoor.Sx
namespace Go.Proofs.YtcbmonndkjihkaaGreatDoor.Sx
attribute [local irreducible] OkQ Ok
set_option linter.unusedSimpArgs false
set_option linter.unusedVariables false
open Nat renaming reduceEqDiff→Z0,reduceBEq→Z1,reduceAdd→Z2,reduceSub→Z3,reduceMul→Z4,reduceLeDiff→Z5
open Int renaming reduceEq→Z6,reduceLE→Z7,reduceLT→Z8,reduceNeg→Z9,reduceToNat→ZA,reduceAdd→ZB,reduceSub→ZC,reduceMul→ZD
set_option maxRecDepth 8000
def numR(s:List UInt8):Nat→Int
 |0=>0
 |i+1=>10*numR s i+dgV (s.getD i 0)
theorem dg_in{b:UInt8}(h:isDg b=true):0≤dgV b∧dgV b≤9:=by
 simp only[isDg,Bool.and_eq_true,decide_eq_true_eq]at h
 unfold dgV
 omega
theorem numR_in{s:List UInt8}:∀i,(∀j,j<i→isDg (s.getD j 0)=true)→0≤numR s i∧numR s i<10 ^ i
 |0,_=>by simp[numR]
 |i+1,h=>by
  obtain⟨a,b⟩:=numR_in i fun j hj=>h j (by omega)
  obtain⟨c,d⟩:=dg_in (h i (by omega))
  rw[numR,Int.pow_succ]
  omega
theorem comb_all{s:List UInt8}(h0:s≠[])(h1:s.length≤3)(h2:¬(1<s.length∧s.getD 0 0=48))(h3:∀j,j<s.length→isDg (s.getD j 0)=true):combV s=if 254<numR s s.length then -1 else numR s s.length:=by
 match s,h0,h1,h2,h3 with
 |[],h0,_,_,_=>exact(h0 rfl).elim
 |[a],_,_,_,h3=>
  have ha:isDg a=true:=h3 0 (by simp)
  have hd:=dg_in ha
  have e:numR [a] [a].length=dgV a:=by show 10*0+dgV a=dgV a;omega
  rw[e,combV,if_pos ha,if_neg (by omega)]
 |[a,b],_,_,h2,h3=>
  have ha:isDg a=true:=h3 0 (by simp)
  have hb:isDg b=true:=h3 1 (by simp)
  have hn:a≠48:=fun h=>h2 ⟨by simp,h⟩
  have hd:=dg_in ha
  have he:=dg_in hb
  have e:numR [a,b] [a,b].length=10*dgV a+dgV b:=by show 10*(10*0+dgV a)+dgV b=_;omega
  rw[e,combV,if_pos ⟨ha,hb,hn⟩,if_neg (by omega)]
 |[a,b,c],_,_,h2,h3=>
  have ha:isDg a=true:=h3 0 (by simp)
  have hb:isDg b=true:=h3 1 (by simp)
  have hc:isDg c=true:=h3 2 (by simp)
  have hn:a≠48:=fun h=>h2 ⟨by simp,h⟩
  have e:numR [a,b,c] [a,b,c].length=10*(10*dgV a+dgV b)+dgV c:=by show 10*(10*(10*0+dgV a)+dgV b)+dgV c=_;omega
  rw[e,combV]
  by_cases h:254<10*(10*dgV a+dgV b)+dgV c
  ·rw[if_pos h,if_neg (fun q=>by omega)]
  ·rw[if_neg h,if_pos ⟨ha,hb,hc,hn,by omega⟩]
 |_::_::_::_::_,_,h1,_,_=>simp at h1
theorem comb_nodig{s:List UInt8}{j:Nat}(hj:j<s.length)(h:isDg (s.getD j 0)=false):combV s= -1:=by
 match s with
 |[]=>rfl
 |[a]=>
  have:j=0:=by simp at hj;omega
  subst this
  have h':isDg a=false:=h
  rw[combV,if_neg (by rw[h'];simp)]
 |[a,b]=>
  rw[combV,if_neg]
  rintro⟨h1,h2,_⟩
  rcases(show j=0∨j=1 by simp at hj;omega)with rfl|rfl
  ·rw[show isDg a=false from h]at h1;cases h1
  ·rw[show isDg b=false from h]at h2;cases h2
 |[a,b,c]=>
  rw[combV,if_neg]
  rintro⟨h1,h2,h3,_⟩
  rcases(show j=0∨j=1∨j=2 by simp at hj;omega)with rfl|rfl|rfl
  ·rw[show isDg a=false from h]at h1;cases h1
  ·rw[show isDg b=false from h]at h2;cases h2
  ·rw[show isDg c=false from h]at h3;cases h3
 |_::_::_::_::_=>simp[combV]
theorem comb_zero{s:List UInt8}(h:1<s.length∧s.getD 0 0=48):combV s= -1:=by
 match s,h with
 |[],h=>simp at h
 |[a],h=>simp at h
 |[a,b],h=>rw[combV,if_neg fun q=>q.2.2 h.2]
 |[a,b,c],h=>rw[combV,if_neg fun q=>q.2.2.2.1 h.2]
 |_::_::_::_::_,_=>simp[combV]
theorem comb_long{s:List UInt8}(h:3<s.length):combV s= -1:=by
 match s,h with
 |[],h=>simp at h
 |[a],h=>simp at h
 |[a,b],h=>simp at h
 |[a,b,c],h=>simp at h
 |_::_::_::_::_,_=>simp[combV]
def refNum:Con:=⟨31,[(false,.str)],[(false,.int .i64)],fun _=>True,fun x=>(combV x.1,()),false⟩
set_option maxHeartbeats 1000000 in
theorem refNum_ok:refNum.Ok Tryz.prog:=by
 refine con_q Tryz.func31 rfl (by decide) (fun x hx hp=>go0 nil_ok 0 ?_) (by decide)
 obtain⟨(s:List UInt8),⟨⟩⟩:=x
 have hz:s.length≤140737488355328:=hx.1
 clear hx hp
 by_cases h0:s=[]
 ·have d0:=dT h0
  have e:combV s= -1:=by rw[h0];rfl
  refine go0 nil_ok 60 ?_
  simp(maxSteps:=4000000)only[go_sem,reduceIte,reduceCtorEq,Z0,Z1,Z2,Z3,Z4,Z5,Z6,Z7,Z8,Z9,ZA,ZB,ZC,ZD,Tryz.f31,refNum,d0,e]
  (repeat' first|apply And.intro|intro _)
  all_goals first|contradiction|omega|rfl|fail
 have d0:=dF h0
 have e48:(((s.getD 0 0).toNat:Int)=48)=(s.getD 0 0=48):=byteQ (s.getD 0 0) 48
 by_cases h1:3<s.length
 ·have d1:decide (3<(s.length:Int))=true:=decide_eq_true (by omega)
  have e:=comb_long h1
  refine go0 nil_ok 60 ?_
  simp(maxSteps:=4000000)only[go_sem,reduceIte,reduceCtorEq,Z0,Z1,Z2,Z3,Z4,Z5,Z6,Z7,Z8,Z9,ZA,ZB,ZC,ZD,Tryz.f31,refNum,d0,d1,e]
  (repeat' first|apply And.intro|intro _)
  all_goals first|contradiction|omega|rfl|fail
 have d1:decide (3<(s.length:Int))=false:=decide_eq_false (by omega)
 by_cases h2:1<s.length∧s.getD 0 0=48
 ·have d2:decide (1<(s.length:Int))=true:=decide_eq_true (by omega)
  have d3:decide (((s.getD 0 0).toNat:Int)=48)=true:=decide_eq_true (by rw[e48];exact h2.2)
  have e:=comb_zero h2
  refine go0 nil_ok 60 ?_
  simp(maxSteps:=4000000)only[go_sem,reduceIte,reduceCtorEq,Z0,Z1,Z2,Z3,Z4,Z5,Z6,Z7,Z8,Z9,ZA,ZB,ZC,ZD,Tryz.f31,refNum,d0,d1,d2,d3,e]
  (repeat' first|apply And.intro|intro _)
  all_goals first|contradiction|omega|rfl|fail
 have hc:=comb_all h0 (by omega) h2
 rcases Nat.lt_or_ge 1 s.length with h4|h4
 ·have d2:decide (1<(s.length:Int))=true:=decide_eq_true (by omega)
  have d3:decide (((s.getD 0 0).toNat:Int)=48)=false:=decide_eq_false (by rw[e48];exact fun h=>h2 ⟨h4,h⟩)
  refine go0 nil_ok 60 ?_
  simp(maxSteps:=4000000)only[go_sem,reduceIte,reduceCtorEq,Z0,Z1,Z2,Z3,Z4,Z5,Z6,Z7,Z8,Z9,ZA,ZB,ZC,ZD,Tryz.f31,refNum,d0,d1,d2,d3]
  (repeat' first|apply And.intro|intro _)
  all_goals try first|contradiction|omega
  refine OkQ.loop (α:=Nat) [1,2,3,4,5,6,7,8,9,10,11,12,13,14,15,16,17,18,19,20,21,22,23,24,25,26,27,28,29,30,31,32,33,34,35,36,37,38,39,40,41,42,43,44,45,46,47,48] (fun i=>[(3,.s (.int .i64 (numR s i))),(4,.s (.int .i64 (i:Int)))]) (fun _=>[]) (fun i=>i≤s.length∧∀j,j<i→isDg (s.getD j 0)=true) (fun i=>s.length - i) 0 ⟨Nat.zero_le _,fun j hj=>by omega⟩ ?_ fun i hi=>?_
  ·simp(maxSteps:=4000000)only[go_sem,reduceIte,reduceCtorEq,Z0,Z1,Z2,Z3,Z4,Z5,Z6,Z7,Z8,Z9,ZA,ZB,ZC,ZD]
   all_goals first|rfl|exact⟨rfl,rfl⟩|fail
  obtain⟨hi,hall⟩:=hi
  obtain⟨r1,r2⟩:=numR_in i hall
  have hp:(10:Int) ^ i≤10 ^ 3:=by
   have:(10:Nat) ^ i≤10 ^ 3:=Nat.pow_le_pow_right (by decide) (by omega)
   exact_mod_cast this
  have e6:(10:Int) ^ 3=1000:=by decide
  rcases Nat.lt_or_ge i s.length with hlt|hge
  ·have dl:decide ((i:Int)<(s.length:Int))=true:=decide_eq_true (by omega)
   have hw:wr .i64 ((i:Int)+1)=((i+1:Nat):Int):=wr_succ (by omega)
   cases hD:isDg (s.getD i 0)
   ·have e:=comb_nodig hlt hD
    have hD':(s.getD i 0).toNat<48∨57<(s.getD i 0).toNat:=by
     simp only[isDg,Bool.and_eq_false_iff,decide_eq_false_iff_not]at hD
     omega
    refine go0 nil_ok 400 ?_
    simp(maxSteps:=4000000)only[go_sem,reduceIte,reduceCtorEq,Z0,Z1,Z2,Z3,Z4,Z5,Z6,Z7,Z8,Z9,ZA,ZB,ZC,ZD,dl,e]
    (repeat' first|apply And.intro|intro _)
    all_goals first|contradiction|omega|rfl|fail
   ·have hD':48≤(s.getD i 0).toNat∧(s.getD i 0).toNat≤57:=by
     simp only[isDg,Bool.and_eq_true,decide_eq_true_eq]at hD
     exact hD
    have q1:decide (((s.getD i 0).toNat:Int)<48)=false:=decide_eq_false (by omega)
    have q2:decide ((57:Int)<((s.getD i 0).toNat:Int))=false:=decide_eq_false (by omega)
    have w1:wr .i64 (10*numR s i)=10*numR s i:=wr_i64 (by omega) (by omega)
    have w2:wr .u8 (((s.getD i 0).toNat:Int) - 48)=dgV (s.getD i 0):=wr_u8 (by omega) (by omega)
    obtain⟨g1,g2⟩:=dg_in hD
    have w4:wr .i64 (dgV (s.getD i 0))=dgV (s.getD i 0):=wr_i64 (by omega) (by omega)
    have w3:wr .i64 (10*numR s i+dgV (s.getD i 0))=numR s (i+1):=wr_i64 (by omega) (by omega)
    refine go0 nil_ok 400 ?_
    simp(maxSteps:=4000000)only[go_sem,reduceIte,reduceCtorEq,Z0,Z1,Z2,Z3,Z4,Z5,Z6,Z7,Z8,Z9,ZA,ZB,ZC,ZD,dl,q1,q2,w1,w2,w4,w3,hw]
    (repeat' first|apply And.intro|intro _)
    all_goals try first|contradiction|omega
    refine⟨i+1,⟨by omega,fun j hj=>?_⟩,by omega,rfl,rfl⟩
    by_cases hji:j=i
    ·rw[hji];exact hD
    ·exact hall j (by omega)
  ·have e:i=s.length:=by omega
   subst e
   have dl:decide ((s.length:Int)<(s.length:Int))=false:=decide_eq_false (by omega)
   have e:=hc hall
   refine go0 nil_ok 400 ?_
   simp(maxSteps:=4000000)only[go_sem,reduceIte,reduceCtorEq,Z0,Z1,Z2,Z3,Z4,Z5,Z6,Z7,Z8,Z9,ZA,ZB,ZC,ZD,dl,e]
   (repeat' first|apply And.intro|intro _)
   all_goals first|contradiction|omega|(rename_i h;rw[if_pos h];done)|(rename_i h;rw[if_neg h];done)|fail
 ·have d2:decide (1<(s.length:Int))=false:=decide_eq_false (by omega)
  refine go0 nil_ok 60 ?_
  simp(maxSteps:=4000000)only[go_sem,reduceIte,reduceCtorEq,Z0,Z1,Z2,Z3,Z4,Z5,Z6,Z7,Z8,Z9,ZA,ZB,ZC,ZD,Tryz.f31,refNum,d0,d1,d2]
  (repeat' first|apply And.intro|intro _)
  all_goals try first|contradiction|omega
  refine OkQ.loop (α:=Nat) [1,2,3,4,5,6,7,8,9,10,11,12,13,14,15,16,17,18,19,20,21,22,23,24,25,26,27,28,29,30,31,32,33,34,35,36,37,38,39,40,41,42,43,44,45,46,47,48] (fun i=>[(3,.s (.int .i64 (numR s i))),(4,.s (.int .i64 (i:Int)))]) (fun _=>[]) (fun i=>i≤s.length∧∀j,j<i→isDg (s.getD j 0)=true) (fun i=>s.length - i) 0 ⟨Nat.zero_le _,fun j hj=>by omega⟩ ?_ fun i hi=>?_
  ·simp(maxSteps:=4000000)only[go_sem,reduceIte,reduceCtorEq,Z0,Z1,Z2,Z3,Z4,Z5,Z6,Z7,Z8,Z9,ZA,ZB,ZC,ZD]
   all_goals first|rfl|exact⟨rfl,rfl⟩|fail
  obtain⟨hi,hall⟩:=hi
  obtain⟨r1,r2⟩:=numR_in i hall
  have hp:(10:Int) ^ i≤10 ^ 3:=by
   have:(10:Nat) ^ i≤10 ^ 3:=Nat.pow_le_pow_right (by decide) (by omega)
   exact_mod_cast this
  have e6:(10:Int) ^ 3=1000:=by decide
  rcases Nat.lt_or_ge i s.length with hlt|hge
  ·have dl:decide ((i:Int)<(s.length:Int))=true:=decide_eq_true (by omega)
   have hw:wr .i64 ((i:Int)+1)=((i+1:Nat):Int):=wr_succ (by omega)
   cases hD:isDg (s.getD i 0)
   ·have e:=comb_nodig hlt hD
    have hD':(s.getD i 0).toNat<48∨57<(s.getD i 0).toNat:=by
     simp only[isDg,Bool.and_eq_false_iff,decide_eq_false_iff_not]at hD
     omega
    refine go0 nil_ok 400 ?_
    simp(maxSteps:=4000000)only[go_sem,reduceIte,reduceCtorEq,Z0,Z1,Z2,Z3,Z4,Z5,Z6,Z7,Z8,Z9,ZA,ZB,ZC,ZD,dl,e]
    (repeat' first|apply And.intro|intro _)
    all_goals first|contradiction|omega|rfl|fail
   ·have hD':48≤(s.getD i 0).toNat∧(s.getD i 0).toNat≤57:=by
     simp only[isDg,Bool.and_eq_true,decide_eq_true_eq]at hD
     exact hD
    have q1:decide (((s.getD i 0).toNat:Int)<48)=false:=decide_eq_false (by omega)
    have q2:decide ((57:Int)<((s.getD i 0).toNat:Int))=false:=decide_eq_false (by omega)
    have w1:wr .i64 (10*numR s i)=10*numR s i:=wr_i64 (by omega) (by omega)
    have w2:wr .u8 (((s.getD i 0).toNat:Int) - 48)=dgV (s.getD i 0):=wr_u8 (by omega) (by omega)
    obtain⟨g1,g2⟩:=dg_in hD
    have w4:wr .i64 (dgV (s.getD i 0))=dgV (s.getD i 0):=wr_i64 (by omega) (by omega)
    have w3:wr .i64 (10*numR s i+dgV (s.getD i 0))=numR s (i+1):=wr_i64 (by omega) (by omega)
    refine go0 nil_ok 400 ?_
    simp(maxSteps:=4000000)only[go_sem,reduceIte,reduceCtorEq,Z0,Z1,Z2,Z3,Z4,Z5,Z6,Z7,Z8,Z9,ZA,ZB,ZC,ZD,dl,q1,q2,w1,w2,w4,w3,hw]
    (repeat' first|apply And.intro|intro _)
    all_goals try first|contradiction|omega
    refine⟨i+1,⟨by omega,fun j hj=>?_⟩,by omega,rfl,rfl⟩
    by_cases hji:j=i
    ·rw[hji];exact hD
    ·exact hall j (by omega)
  ·have e:i=s.length:=by omega
   subst e
   have dl:decide ((s.length:Int)<(s.length:Int))=false:=decide_eq_false (by omega)
   have e:=hc hall
   refine go0 nil_ok 400 ?_
   simp(maxSteps:=4000000)only[go_sem,reduceIte,reduceCtorEq,Z0,Z1,Z2,Z3,Z4,Z5,Z6,Z7,Z8,Z9,ZA,ZB,ZC,ZD,dl,e]
   (repeat' first|apply And.intro|intro _)
   all_goals first|contradiction|omega|(rename_i h;rw[if_pos h];done)|(rename_i h;rw[if_neg h];done)|fail
theorem split_app1(b:UInt8):∀(s:List UInt8) (c:UInt8),splitV b (s++[c])=if c=b then splitV b s++[[]]else(splitV b s).set ((splitV b s).length - 1) ((splitV b s).getD ((splitV b s).length - 1) []++[c])
 |[],c=>by by_cases h:c=b<;>simp[splitV,h]
 |x::s,c=>by
  rw[List.cons_append,splitV,split_app1 b s c,splitV]
  have hne:=split_ne b s
  generalize splitV b s=L at hne ⊢
  cases L with
  |nil=>exact(hne rfl).elim
  |cons y M=>
   by_cases h:c=b<;>by_cases hx:x=b<;>cases M<;>simp[h,hx]
def refPcs6:Con:=⟨62,[(false,.str)],[(false,.slice 16 .str)],fun x=>(x.1:List UInt8).length≤1000000000000,fun x=>(splitV 32 x.1,()),false⟩
set_option maxHeartbeats 1000000 in
theorem refPcs6_ok:refPcs6.Ok Tryz.prog:=by
 refine con_q Tryz.func62 rfl (by decide) (fun x hx hp=>go0 nil_ok 400 ?_) (by decide)
 obtain⟨(s:List UInt8),⟨⟩⟩:=x
 have hz:s.length≤1000000000000:=hp
 clear hx hp
 simp(maxSteps:=4000000)only[go_sem,reduceIte,reduceCtorEq,Z0,Z1,Z2,Z3,Z4,Z5,Z6,Z7,Z8,Z9,ZA,ZB,ZC,ZD,Tryz.f62,refPcs6]
 (repeat' first|apply And.intro|intro _|(show staB _ _=true;kernel_rfl)|(show dynB _ _=true;kernel_rfl)|(show dynP _ _ _=true;kernel_rfl))
 all_goals try first|contradiction|omega
 refine OkQ.loop (α:=Nat) [1,2,3,4,5,6,7,8,9,10,11,12,13,14,15,16,17,18,19,20,21,22,23,24,25,26,27,28,29,30,31,32] (fun i=>[(3,.s (.sub 0 0 (splitV 32 (s.take i)).length)),(4,.s (.int .i64 (i:Int)))]) (fun i=>[(0,.arr false 16 .str (splitV 32 (s.take i)))]) (fun i=>i≤s.length) (fun i=>s.length - i) 0 (Nat.zero_le _) ?_ fun i hi=>?_
 ·simp(maxSteps:=4000000)only[go_sem,reduceIte,reduceCtorEq,Z0,Z1,Z2,Z3,Z4,Z5,Z6,Z7,Z8,Z9,ZA,ZB,ZC,ZD]
  all_goals first|rfl|exact⟨rfl,rfl⟩|exact⟨⟨rfl,rfl⟩,rfl⟩|fail
 have hct:=split_count 32 (s.take i)
 have hne:=split_ne 32 (s.take i)
 rw[List.length_take,Nat.min_eq_left hi]at hct
 have hpos:0<(splitV 32 (s.take i)).length:=List.length_pos_iff.2 hne
 rcases Nat.lt_or_ge i s.length with hlt|hge
 ·have dl:decide ((i:Int)<(s.length:Int))=true:=decide_eq_true (by omega)
  have hw:wr .i64 ((i:Int)+1)=((i+1:Nat):Int):=wr_succ (by omega)
  have hn:s.take (i+1)=s.take i++[s.getD i 0]:=by
   rw[List.take_succ_eq_append_getElem hlt]
   simp[List.getD_eq_getElem?_getD,hlt]
  have hs:=split_app1 32 (s.take i) (s.getD i 0)
  rw[←hn]at hs
  by_cases hb:s.getD i 0=32
  ·have db:decide (((s.getD i 0).toNat:Int)=32)=true:=decide_eq_true (by rw[hb];rfl)
   rw[if_pos hb]at hs
   refine go0 nil_ok 400 ?_
   simp(maxSteps:=4000000)only[go_sem,reduceIte,reduceCtorEq,Z0,Z1,Z2,Z3,Z4,Z5,Z6,Z7,Z8,Z9,ZA,ZB,ZC,ZD,dl,db,hw]
   (repeat' first|apply And.intro|intro _|(show staB _ _=true;kernel_rfl)|(show dynB _ _=true;kernel_rfl)|(show dynP _ _ _=true;kernel_rfl))
   all_goals try first|contradiction|omega
   refine⟨i+1,by omega,by omega,?_⟩
   rw[hs]
   simp(maxSteps:=4000000)only[go_sem,reduceIte,reduceCtorEq,Z0,Z1,Z2,Z3,Z4,Z5,Z6,Z7,Z8,Z9,ZA,ZB,ZC,ZD]
   all_goals first|rfl|exact⟨rfl,rfl⟩|exact⟨⟨by simp,rfl⟩,rfl⟩|simp|fail
  ·have db:decide (((s.getD i 0).toNat:Int)=32)=false:=decide_eq_false fun h=>hb (by rw[show(32:Int)=((32:UInt8).toNat:Int)from rfl,byteQ]at h;exact h)
   rw[if_neg hb]at hs
   have hel:((splitV 32 (s.take i)).getD ((splitV 32 (s.take i)).length - 1) []).length≤s.length:=by
    have hm:(splitV 32 (s.take i)).getD ((splitV 32 (s.take i)).length - 1) []∈splitV 32 (s.take i):=by
     rw[List.getD_eq_getElem?_getD,List.getElem?_eq_getElem (by omega)]
     exact List.getElem_mem _
    have:=split_each 32 (s.take i) _ hm
    rw[List.length_take]at this
    omega
   have hwl:wr .i64 (((splitV 32 (s.take i)).length:Int) - 1)=(((splitV 32 (s.take i)).length - 1:Nat):Int):=by rw[wr_i64 (by omega) (by omega)];omega
   have ht:List.take (i+1 - i) (List.drop i s)=[s.getD i 0]:=by
    rw[show i+1 - i=1 by omega,List.drop_eq_getElem_cons hlt,List.take_succ_cons,List.take_zero]
    simp[List.getD_eq_getElem?_getD,hlt]
   refine go0 nil_ok 400 ?_
   simp(maxSteps:=4000000)only[go_sem,reduceIte,reduceCtorEq,Z0,Z1,Z2,Z3,Z4,Z5,Z6,Z7,Z8,Z9,ZA,ZB,ZC,ZD,dl,db,hw,hwl,Int.toNat_natCast,ht]
   (repeat' first|apply And.intro|intro _|(show staB _ _=true;kernel_rfl)|(show dynB _ _=true;kernel_rfl)|(show dynP _ _ _=true;kernel_rfl))
   all_goals try first|contradiction|omega
   refine⟨i+1,by omega,by omega,?_⟩
   rw[hs]
   simp(maxSteps:=4000000)only[go_sem,reduceIte,reduceCtorEq,Z0,Z1,Z2,Z3,Z4,Z5,Z6,Z7,Z8,Z9,ZA,ZB,ZC,ZD]
   all_goals first|rfl|exact⟨rfl,rfl⟩|exact⟨⟨by simp,rfl⟩,rfl⟩|simp|fail
 ·have e:i=s.length:=by omega
  subst e
  have dl:decide ((s.length:Int)<(s.length:Int))=false:=decide_eq_false (by omega)
  rw[List.take_length]
  refine go0 nil_ok 400 ?_
  simp(maxSteps:=4000000)only[go_sem,reduceIte,reduceCtorEq,Z0,Z1,Z2,Z3,Z4,Z5,Z6,Z7,Z8,Z9,ZA,ZB,ZC,ZD,dl]
  (repeat' first|apply And.intro|intro _|(show staB _ _=true;kernel_rfl)|(show dynB _ _=true;kernel_rfl)|(show dynP _ _ _=true;kernel_rfl))
  all_goals first|contradiction|omega|rfl|(simp;done)|fail
theorem isTag_iff{x:List UInt8}:isTag x=true↔(2≤x.length∧x.getD 0 0=60)∧x.getD (x.length - 1) 0=62:=by
 unfold isTag
 simp only[Bool.and_eq_true,decide_eq_true_eq,and_assoc]
def refMade:Con:=⟨34,[(false,.str)],[(false,.int .i32),(false,.bool)],fun x=>(x.1:List UInt8).length≤1000000000,fun x=>(if madeOk x.1=true then madeV x.1 else 0,madeOk x.1,()),false⟩
set_option maxHeartbeats 2000000 in
theorem refMade_ok:refMade.Ok Tryz.prog:=by
 refine con_q Tryz.func34 rfl (by decide) (fun x hx hp=>go0 (cons_ok refPcs6_ok (cons_ok refHex_ok nil_ok)) 0 ?_) (by decide)
 obtain⟨(s:List UInt8),⟨⟩⟩:=x
 have hz:s.length≤1000000000:=hp
 clear hx hp
 by_cases c5:s=[]
 ·have d5:=dT c5
  have e1:madeOk s=true:=by rw[c5];rfl
  have e2:madeV s=0:=by rw[c5];rfl
  refine go0 (cons_ok refPcs6_ok (cons_ok refHex_ok nil_ok)) 30 ?_
  simp(maxSteps:=4000000)only[go_sem,reduceIte,reduceCtorEq,Z0,Z1,Z2,Z3,Z4,Z5,Z6,Z7,Z8,Z9,ZA,ZB,ZC,ZD,Tryz.f34,refMade,d5,e1,e2,if_true,refPcs6,refHex]
  (repeat' first|apply And.intro|intro _)
  all_goals first|contradiction|omega|rfl|fail
 have d5:=dF c5
 have hL:0<(splitV 32 s).length:=List.length_pos_iff.2 (split_ne 32 _)
 have hLs:(splitV 32 s).length≤1000000001:=by have:=split_count 32 s;omega
 have hh:(splitV 32 s).headD []=(splitV 32 s).getD 0 []:=by
  cases splitV 32 s<;>rfl
 have hx0:((splitV 32 s).getD 0 []).length≤1000000000:=by
  have:=split_mem 32 s ((splitV 32 s).getD 0 []) (head_mem hL)
  omega
 have hit:=isTag_iff (x:=(splitV 32 s).getD 0 [])
 have hwl:wr .i64 ((((splitV 32 s).getD 0 []).length:Int) - 1)=(((splitV 32 s).getD 0 []).length:Int) - 1:=wr_i64 (by omega) (by omega)
 have t1:((((splitV 32 s).getD 0 []).length:Int) - 1).toNat=((splitV 32 s).getD 0 []).length - 1:=by omega
 have e60:∀b:UInt8,((b.toNat:Int)=60)=(b=60):=fun b=>byteQ b 60
 have e62:∀b:UInt8,((b.toNat:Int)=62)=(b=62):=fun b=>byteQ b 62
 cases hg:isTag ((splitV 32 s).getD 0 [])
 ·have hM:madeL s=splitV 32 s:=by
   unfold madeL
   rw[hh,if_neg (by rw[hg];simp)]
  have hnt:¬isTag ((splitV 32 s).headD [])=true:=by rw[hh,hg];simp
  have hng:¬((2≤((splitV 32 s).getD 0 []).length∧((splitV 32 s).getD 0 []).getD 0 0=60)∧((splitV 32 s).getD 0 []).getD (((splitV 32 s).getD 0 []).length - 1) 0=62):=fun h=>by rw[hit.2 h]at hg;cases hg
  refine go0 (cons_ok refPcs6_ok (cons_ok refHex_ok nil_ok)) 60 ?_
  simp(maxSteps:=4000000)only[go_sem,reduceIte,reduceCtorEq,Z0,Z1,Z2,Z3,Z4,Z5,Z6,Z7,Z8,Z9,ZA,ZB,ZC,ZD,Tryz.f34,refMade,d5,hwl,t1,e60,e62,refPcs6,refHex]
  (repeat' first|apply And.intro|intro _)
  all_goals try first|contradiction|omega|(rename_i h;exact h.2)|(rename_i h;exact(hng ⟨⟨by omega,h.1.2⟩,h.2⟩).elim)
  have dN:decide (((splitV 32 s).length:Int)=0)=false:=decide_eq_false (by omega)
  refine go0 (cons_ok refPcs6_ok (cons_ok refHex_ok nil_ok)) 60 ?_
  simp(maxSteps:=4000000)only[go_sem,reduceIte,reduceCtorEq,Z0,Z1,Z2,Z3,Z4,Z5,Z6,Z7,Z8,Z9,ZA,ZB,ZC,ZD,dN,refPcs6,refHex]
  (repeat' first|apply And.intro|intro _)
  all_goals try first|contradiction|omega
  refine OkQ.loop (α:=Nat) [0,1,2,3,6,7,8,9,10,11,12,13,14,15,16,17,18,19,20,21,22,23,24,25,26,27,28,29,30,31,32,33,34,35,36,37,38,39,40,41,42,43,44,45,46,47,48,49,50,51,52,53,54,55,56,57,58,59,60,61,62,63,64,65] (fun i=>[(7,.s (.int .i32 (twI (splitV 32 s) i))),(8,.s (.int .i64 (i:Int)))]) (fun i=>[])
   (fun i=>i≤(splitV 32 s).length∧∀j,j<i→hexE ((splitV 32 s).getD j [])=0) (fun i=>(splitV 32 s).length - i) 0 ⟨by omega,fun j h=>by omega⟩ ?_ fun i hi=>?_
  ·simp(maxSteps:=4000000)only[go_sem,reduceIte,reduceCtorEq,Z0,Z1,Z2,Z3,Z4,Z5,Z6,Z7,Z8,Z9,ZA,ZB,ZC,ZD,refPcs6,refHex]
   all_goals first|rfl|exact⟨rfl,rfl⟩|exact⟨⟨rfl,rfl⟩,rfl⟩|exact⟨rfl,rfl,rfl⟩|fail
  obtain⟨hi,hall⟩:=hi
  generalize hMM:splitV 32 s=M at*
  have hxl:(M.getD i []).length≤140737488355328:=by
   by_cases hm:i<M.length
   ·have:M.getD i []∈M:=by
     rw[List.getD_eq_getElem?_getD,List.getElem?_eq_getElem hm]
     exact List.getElem_mem _
    rw[←hMM]at this
    have:=split_each 32 s _ this
    rw[hMM]at this
    omega
   ·rw[List.getD_eq_getElem?_getD,List.getElem?_eq_none (by omega)]
    simp
  rcases Nat.lt_or_ge i M.length with hlt|hge
  ·have dI:decide ((i:Int)<(M.length:Int))=true:=decide_eq_true (by omega)
   have hw:wr .i64 ((i:Int)+1)=((i+1:Nat):Int):=wr_succ (by omega)
   by_cases hx:hexE (M.getD i [])=0
   ·have dX:decide (hexE (M.getD i [])=0)=true:=decide_eq_true hx
    refine go0 (cons_ok refPcs6_ok (cons_ok refHex_ok nil_ok)) 60 ?_
    simp(maxSteps:=4000000)only[go_sem,reduceIte,reduceCtorEq,Z0,Z1,Z2,Z3,Z4,Z5,Z6,Z7,Z8,Z9,ZA,ZB,ZC,ZD,dI,dX,hw,refPcs6,refHex]
    (repeat' first|apply And.intro|intro _)
    all_goals try first|contradiction|omega|rfl|trivial
    refine⟨i+1,⟨by omega,fun j hj=>?_⟩,by omega,?_⟩
    ·by_cases hji:j=i
     ·rw[hji];exact hx
     ·exact hall j (by omega)
    ·first|exact⟨rfl,rfl⟩|exact⟨rfl,rfl,rfl⟩|fail
   ·have dX:decide (hexE (M.getD i [])=0)=false:=decide_eq_false hx
    have eo:=made_no c5 hM hlt hx
    have eo2:¬(madeOk s=true):=by rw[eo];simp
    refine go0 (cons_ok refPcs6_ok (cons_ok refHex_ok nil_ok)) 60 ?_
    simp(maxSteps:=4000000)only[go_sem,reduceIte,reduceCtorEq,Z0,Z1,Z2,Z3,Z4,Z5,Z6,Z7,Z8,Z9,ZA,ZB,ZC,ZD,dI,dX,eo,if_neg eo2,refPcs6,refHex]
    (repeat' first|apply And.intro|intro _)
    all_goals first|contradiction|omega|rfl|trivial|fail
  ·have e:i=M.length:=by omega
   subst e
   have dI:decide ((M.length:Int)<(M.length:Int))=false:=decide_eq_false (by omega)
   have hok:=made_yes c5 hM (List.length_pos_iff.1 hL) hall
   by_cases h1:1<M.length
   ·have d1:decide ((1:Int)<(M.length:Int))=true:=decide_eq_true (by omega)
    have e0:=made_v0 hM (.inr h1)
    refine go0 (cons_ok refPcs6_ok (cons_ok refHex_ok nil_ok)) 60 ?_
    simp(maxSteps:=4000000)only[go_sem,reduceIte,reduceCtorEq,Z0,Z1,Z2,Z3,Z4,Z5,Z6,Z7,Z8,Z9,ZA,ZB,ZC,ZD,dI,d1,hok,if_true,e0,refPcs6,refHex]
    (repeat' first|apply And.intro|intro _)
    all_goals first|contradiction|omega|rfl|trivial|fail
   ·have d1:decide ((1:Int)<(M.length:Int))=false:=decide_eq_false (by omega)
    have h2:M.length=1:=by omega
    have e0:madeV s=twI M M.length:=by
     rw[made_v1 c5 hM (fun h=>h.elim (fun h=>hnt (by rw[←hMM];exact h)) h1),hh,h2]
     rfl
    refine go0 (cons_ok refPcs6_ok (cons_ok refHex_ok nil_ok)) 60 ?_
    simp(maxSteps:=4000000)only[go_sem,reduceIte,reduceCtorEq,Z0,Z1,Z2,Z3,Z4,Z5,Z6,Z7,Z8,Z9,ZA,ZB,ZC,ZD,dI,d1,hok,if_true,e0,refPcs6,refHex]
    (repeat' first|apply And.intro|intro _)
    all_goals first|contradiction|omega|rfl|trivial|fail
 ·have hM:madeL s=(splitV 32 s).tail:=by
   unfold madeL
   rw[hh,if_pos hg]
  have hyg:=hit.1 hg
  have hgh:isTag ((splitV 32 s).headD [])=true:=by rw[hh];exact hg
  have hG:∀i,(splitV 32 s).getD (i+1) []=(splitV 32 s).tail.getD i []:=fun i=>by
   cases splitV 32 s<;>simp
  have hG':∀i,(splitV 32 s).getD (1+i) []=(splitV 32 s).tail.getD i []:=fun i=>by rw[Nat.add_comm,hG]
  have hTl:(splitV 32 s).length - 1=(splitV 32 s).tail.length:=by rw[List.length_tail]
  refine go0 (cons_ok refPcs6_ok (cons_ok refHex_ok nil_ok)) 60 ?_
  simp(maxSteps:=4000000)only[go_sem,reduceIte,reduceCtorEq,Z0,Z1,Z2,Z3,Z4,Z5,Z6,Z7,Z8,Z9,ZA,ZB,ZC,ZD,Tryz.f34,refMade,d5,hwl,t1,e60,e62,refPcs6,refHex]
  (repeat' first|apply And.intro|intro _)
  all_goals try first|contradiction|omega|(rename_i h;exact h.2)|(rename_i h;exfalso;rcases h with(h|h)|h;exact h (by omega);exact h hyg.1.2;exact h hyg.2)
  by_cases hN:(splitV 32 s).tail=[]
  ·have dN:decide (((splitV 32 s).tail.length:Int)=0)=true:=decide_eq_true (by rw[hN];rfl)
   have eo:=made_nil c5 (hM.trans hN)
   have eo2:¬(madeOk s=true):=by rw[eo];simp
   refine go0 (cons_ok refPcs6_ok (cons_ok refHex_ok nil_ok)) 60 ?_
   simp(maxSteps:=4000000)only[go_sem,reduceIte,reduceCtorEq,Z0,Z1,Z2,Z3,Z4,Z5,Z6,Z7,Z8,Z9,ZA,ZB,ZC,ZD,hTl,dN,eo,if_neg eo2,refPcs6,refHex]
   (repeat' first|apply And.intro|intro _)
   all_goals first|contradiction|omega|rfl|trivial|fail
  have dN:decide (((splitV 32 s).tail.length:Int)=0)=false:=decide_eq_false fun h=>hN (List.length_eq_zero_iff.1 (by omega))
  have hTs:(splitV 32 s).tail.length≤1000000001:=by rw[List.length_tail];omega
  refine go0 (cons_ok refPcs6_ok (cons_ok refHex_ok nil_ok)) 60 ?_
  simp(maxSteps:=4000000)only[go_sem,reduceIte,reduceCtorEq,Z0,Z1,Z2,Z3,Z4,Z5,Z6,Z7,Z8,Z9,ZA,ZB,ZC,ZD,hTl,dN,refPcs6,refHex]
  (repeat' first|apply And.intro|intro _)
  all_goals try first|contradiction|omega
  refine OkQ.loop (α:=Nat) [0,1,2,3,6,7,8,9,10,11,12,13,14,15,16,17,18,19,20,21,22,23,24,25,26,27,28,29,30,31,32,33,34,35,36,37,38,39,40,41,42,43,44,45,46,47,48,49,50,51,52,53,54,55,56,57,58,59,60,61,62,63,64,65] (fun i=>[(7,.s (.int .i32 (twI (splitV 32 s).tail i))),(8,.s (.int .i64 (i:Int)))]) (fun i=>[])
   (fun i=>i≤(splitV 32 s).tail.length∧∀j,j<i→hexE ((splitV 32 s).tail.getD j [])=0) (fun i=>(splitV 32 s).tail.length - i) 0 ⟨by omega,fun j h=>by omega⟩ ?_ fun i hi=>?_
  ·simp(maxSteps:=4000000)only[go_sem,reduceIte,reduceCtorEq,Z0,Z1,Z2,Z3,Z4,Z5,Z6,Z7,Z8,Z9,ZA,ZB,ZC,ZD,refPcs6,refHex]
   all_goals first|rfl|exact⟨rfl,rfl⟩|exact⟨⟨rfl,rfl⟩,rfl⟩|exact⟨rfl,rfl,rfl⟩|fail
  obtain⟨hi,hall⟩:=hi
  have hxl:((splitV 32 s).tail.getD i []).length≤140737488355328:=by
   by_cases hm:i<(splitV 32 s).tail.length
   ·have:(splitV 32 s).tail.getD i []∈splitV 32 s:=by
     rw[List.getD_eq_getElem?_getD,List.getElem?_eq_getElem hm]
     exact List.mem_of_mem_tail (List.getElem_mem _)
    have:=split_each 32 s _ this
    omega
   ·rw[List.getD_eq_getElem?_getD,List.getElem?_eq_none (by omega)]
    simp
  rcases Nat.lt_or_ge i (splitV 32 s).tail.length with hlt|hge
  ·have dI:decide ((i:Int)<((splitV 32 s).tail.length:Int))=true:=decide_eq_true (by omega)
   have hw:wr .i64 ((i:Int)+1)=((i+1:Nat):Int):=wr_succ (by omega)
   by_cases hx:hexE ((splitV 32 s).tail.getD i [])=0
   ·have dX:decide (hexE ((splitV 32 s).tail.getD i [])=0)=true:=decide_eq_true hx
    refine go0 (cons_ok refPcs6_ok (cons_ok refHex_ok nil_ok)) 60 ?_
    simp(maxSteps:=4000000)only[go_sem,reduceIte,reduceCtorEq,Z0,Z1,Z2,Z3,Z4,Z5,Z6,Z7,Z8,Z9,ZA,ZB,ZC,ZD,hTl,dI,hG,hG',dX,hw,refPcs6,refHex]
    (repeat' first|apply And.intro|intro _)
    all_goals try first|contradiction|omega|rfl|trivial
    refine⟨i+1,⟨by omega,fun j hj=>?_⟩,by omega,?_⟩
    ·by_cases hji:j=i
     ·rw[hji];exact hx
     ·exact hall j (by omega)
    ·first|exact⟨rfl,rfl⟩|exact⟨rfl,rfl,rfl⟩|fail
   ·have dX:decide (hexE ((splitV 32 s).tail.getD i [])=0)=false:=decide_eq_false hx
    have eo:=made_no c5 hM hlt hx
    have eo2:¬(madeOk s=true):=by rw[eo];simp
    refine go0 (cons_ok refPcs6_ok (cons_ok refHex_ok nil_ok)) 60 ?_
    simp(maxSteps:=4000000)only[go_sem,reduceIte,reduceCtorEq,Z0,Z1,Z2,Z3,Z4,Z5,Z6,Z7,Z8,Z9,ZA,ZB,ZC,ZD,hTl,dI,hG,hG',dX,eo,if_neg eo2,refPcs6,refHex]
    (repeat' first|apply And.intro|intro _)
    all_goals first|contradiction|omega|rfl|trivial|fail
  ·have e:i=(splitV 32 s).tail.length:=by omega
   subst e
   have dI:decide (((splitV 32 s).tail.length:Int)<((splitV 32 s).tail.length:Int))=false:=decide_eq_false (by omega)
   have hok:=made_yes c5 hM hN hall
   have e0:=made_v0 hM (.inl hgh)
   refine go0 (cons_ok refPcs6_ok (cons_ok refHex_ok nil_ok)) 60 ?_
   simp(maxSteps:=4000000)only[go_sem,reduceIte,reduceCtorEq,Z0,Z1,Z2,Z3,Z4,Z5,Z6,Z7,Z8,Z9,ZA,ZB,ZC,ZD,hTl,dI,hok,if_true,e0,refPcs6,refHex]
   (repeat' first|apply And.intro|intro _)
   all_goals first|contradiction|omega|rfl|trivial|fail
end Go.Proofs.YtcbmonndkjihkaaGreatDoor.Sx
namespace Go.Proofs.YtcbmonndkjihkaaGreatDoor.Sx
attribute [local irreducible] OkQ Ok
set_option linter.unusedSimpArgs false
set_option linter.unusedVariables false
open Nat renaming reduceEqDiff→Z0,reduceBEq→Z1,reduceAdd→Z2,reduceSub→Z3,reduceMul→Z4,reduceLeDiff→Z5
open Int renaming reduceEq→Z6,reduceLE→Z7,reduceLT→Z8,reduceNeg→Z9,reduceToNat→ZA,reduceAdd→ZB,reduceSub→ZC,reduceMul→ZD
set_option maxRecDepth 8000
def longN(b:UInt8):Nat:=if b.toNat<128 then 1 else if b.toNat<192∨247<b.toNat then 0 else if b.toNat<224 then 2 else if b.toNat<240 then 3 else 4
theorem longN_le(b:UInt8):longN b≤4:=by unfold longN;repeat' split
                                        all_goals omega
theorem u8_of{c:Int}(h:IntKind.u8.has c):∃d:UInt8,d=UInt8.ofNat c.toNat∧c=(d.toNat:Int):=by
 have hc:0≤c∧c≤255:=by simpa[IntKind.has,IntKind.min,IntKind.max,IntKind.signed,IntKind.bits]using h
 refine⟨_,rfl,?_⟩
 simp
 omega
def refLong:Con:=⟨160,[(false,.int .u8)],[(false,.int .i64)],fun _=>True,fun x=>((longN (UInt8.ofNat (x.1:Int).toNat):Int),()),false⟩
theorem refLong_ok:refLong.Ok Tryz.prog:=by
 refine con_q Tryz.func160 rfl (by decide) (fun x hx hp=>go0 nil_ok 400 ?_) (by decide)
 obtain⟨(c:Int),⟨⟩⟩:=x
 obtain⟨d,hd,hcd⟩:=u8_of hx.1
 clear hx hp
 simp(maxSteps:=4000000)only[go_sem,reduceIte,reduceCtorEq,Z0,Z1,Z2,Z3,Z4,Z5,Z6,Z7,Z8,Z9,ZA,ZB,ZC,ZD,Tryz.f160,refLong]
 rw[←hd]
 subst hcd
 (repeat' first|apply And.intro|intro _)
 all_goals first|contradiction|omega|(unfold longN;(repeat' split)<;>omega)|fail
def contB(b:UInt8):Bool:=decide (128≤b.toNat)&&decide (b.toNat≤191)
def bitsT:List Int:=[0,127,31,15,7]
def leastT:List Int:=[0,0,128,2048,65536]
def at0(b:UInt8)(n:Nat):Int:=wr .i64 ((ub .i64 (b.toNat:Int) &&& ub .i64 (bitsT.getD n 0):Nat):Int)
def atN(x:Int)(b:UInt8):Int:=wr .i64 (wr .i64 (wr .i64 (x*64)+(b.toNat:Int)) - 128)
def atFrom(s:List UInt8)(a:Nat):Nat→Nat→Int→Int×Int
 |0,_,x=>(0,x)
 |f+1,i,x=>if s.length≤a+i then(11,0)else if contB (s.getD (a+i) 0)=true then atFrom s a f (i+1) (atN x (s.getD (a+i) 0))else(12,0)
abbrev SpotD:=Int×Int×Int×Int×Unit
def spotV(s:List UInt8)(a:Nat):SpotD:=
 if longN (s.getD a 0)=0 then((a:Int),1,65533,10,())else
 if(atFrom s a (longN (s.getD a 0) - 1) 1 (at0 (s.getD a 0) (longN (s.getD a 0)))).1≠0 then((a:Int),1,65533,(atFrom s a (longN (s.getD a 0) - 1) 1 (at0 (s.getD a 0) (longN (s.getD a 0)))).1,())else
 if(atFrom s a (longN (s.getD a 0) - 1) 1 (at0 (s.getD a 0) (longN (s.getD a 0)))).2<leastT.getD (longN (s.getD a 0)) 0 then((a:Int),1,65533,13,())else
 if 55296≤(atFrom s a (longN (s.getD a 0) - 1) 1 (at0 (s.getD a 0) (longN (s.getD a 0)))).2∧(atFrom s a (longN (s.getD a 0) - 1) 1 (at0 (s.getD a 0) (longN (s.getD a 0)))).2≤57343 then((a:Int),1,65533,14,())else
 if 1114111<(atFrom s a (longN (s.getD a 0) - 1) 1 (at0 (s.getD a 0) (longN (s.getD a 0)))).2 then((a:Int),1,65533,15,())else
 ((a:Int),(longN (s.getD a 0):Int),wr .i32 (atFrom s a (longN (s.getD a 0) - 1) 1 (at0 (s.getD a 0) (longN (s.getD a 0)))).2,0,())
theorem spot_w(s:List UInt8)(a:Nat):∃w:Nat,(spotV s a).2.1=(w:Int)∧1≤w∧w≤4:=by
 have:=longN_le (s.getD a 0)
 unfold spotV
 repeat' split
 all_goals first
  |exact⟨1,rfl,by omega,by omega⟩
  |exact⟨longN (s.getD a 0),rfl,by omega,by omega⟩
abbrev tSpot:Ty:= .pair (.int .i64) (.pair (.int .i64) (.pair (.int .i32) (.pair (.int .i64) .unit)))
def refAt:Con:=⟨136,[(false,.str),(false,.int .i64)],[(true,tSpot)],fun x=>0≤(x.2.1:Int)∧(x.2.1:Int)<(x.1:List UInt8).length,fun x=>(spotV x.1 (x.2.1:Int).toNat,()),false⟩
set_option maxHeartbeats 4000000 in
theorem refAt_ok:refAt.Ok Tryz.prog:=by
 refine con_q Tryz.func136 rfl (by decide) (fun x hx hp=>go0 (cons_ok refLong_ok nil_ok) 0 ?_) (by decide)
 obtain⟨(s:List UInt8),(a':Int),⟨⟩⟩:=x
 have hz:s.length≤140737488355328:=hx.1
 have h0:0≤a':=hp.1
 have hl:a'<s.length:=hp.2
 obtain⟨a,rfl⟩:=Int.eq_ofNat_of_zero_le h0
 clear hx hp h0
 have hB:∀b:UInt8,UInt8.ofNat b.toNat=b:=fun b=>by simp
 obtain⟨b,hb⟩:∃b,b=s.getD a 0:=⟨_,rfl⟩
 have hS:spotV s a=spotV s a:=rfl
 conv at hS=>rhs;unfold spotV
 rw[←hb]at hS
 have hle:=longN_le b
 obtain⟨n,hn⟩:∃n,n=longN b:=⟨_,rfl⟩
 rw[←hn]at hS hle
 by_cases h1:n=0
 ·have d1:decide ((n:Int)=0)=true:=decide_eq_true (by omega)
  rw[if_pos h1]at hS
  refine go0 (cons_ok refLong_ok nil_ok) 60 ?_
  simp(maxSteps:=4000000)only[go_sem,reduceIte,reduceCtorEq,Z0,Z1,Z2,Z3,Z4,Z5,Z6,Z7,Z8,Z9,ZA,ZB,ZC,ZD,Tryz.f136,refAt,Int.toNat_natCast,←hb,hB,←hn,d1,hS,refLong]
  (repeat' first|apply And.intro|intro _|(show staB _ _=true;kernel_rfl)|(show dynB _ _=true;kernel_rfl)|(show dynP _ _ _=true;kernel_rfl))
  all_goals first|contradiction|omega|fail
 have d1:decide ((n:Int)=0)=false:=decide_eq_false (by omega)
 rw[if_neg h1]at hS
 have hwb:∀b:UInt8,wr .i64 (b.toNat:Int)=(b.toNat:Int):=fun b=>by
  have:=b.toNat_lt
  exact wr_i64 (by omega) (by omega)
 have hx0:wr .i64 ((ub .i64 (b.toNat:Int) &&& ub .i64 (([0,127,31,15,7]:List Int).getD n 0):Nat):Int)=at0 b n:=rfl
 refine go0 (cons_ok refLong_ok nil_ok) 400 ?_
 simp(maxSteps:=4000000)only[go_sem,reduceIte,reduceCtorEq,Z0,Z1,Z2,Z3,Z4,Z5,Z6,Z7,Z8,Z9,ZA,ZB,ZC,ZD,Tryz.f136,refAt,Int.toNat_natCast,←hb,hB,←hn,d1,hwb,hx0,refLong]
 (repeat' first|apply And.intro|intro _|(show staB _ _=true;kernel_rfl)|(show dynB _ _=true;kernel_rfl)|(show dynP _ _ _=true;kernel_rfl))
 all_goals try first|contradiction|omega
 generalize hR:atFrom s a (n - 1) 1 (at0 b n)=R at hS
 refine OkQ.loop (α:=Nat×Int) [2,3,7,8,9,10,11,12,13,14,15,16,17,18,19,20,21,22,23,24,25,26,27,28,29,30,31,32,33,34,35,36,37,38,39,40,41,42,43,44,45,46,47,48,49,50,51,52,53,54,55,56,57,58,59,60,61,62,63,64,65,66,67,68,69,70,71,72,73,74,75,76,77,78,79,80,81,82,83,84,85,86,87,88,89] (fun x=>[(8,.s (.int .i64 x.2)),(9,.s (.int .i64 (x.1:Int)))]) (fun _=>[]) (fun x=>x.1≤n∧1≤x.1∧atFrom s a (n - x.1) x.1 x.2=R) (fun x=>n - x.1) (1,at0 b n) ⟨by dsimp only;omega,by dsimp only;omega,hR⟩ ?_ fun x hx=>?_
 ·simp(maxSteps:=4000000)only[go_sem,reduceIte,reduceCtorEq,Z0,Z1,Z2,Z3,Z4,Z5,Z6,Z7,Z8,Z9,ZA,ZB,ZC,ZD,refLong]
  all_goals first|rfl|exact⟨rfl,rfl⟩|fail
 obtain⟨i,x⟩:=x
 obtain⟨hi,hi1,hxR⟩:=hx
 dsimp only at hi hi1 hxR ⊢
 have hT:∀x:Int,wr .i64 (wr .i64 (wr .i64 (x*64)+((s.getD (a+i) 0).toNat:Int)) - 128)=atN x (s.getD (a+i) 0):=fun _=>rfl
 have hwa:wr .i64 ((a:Int)+(i:Int))=((a+i:Nat):Int):=by rw[wr_i64 (by omega) (by omega)];omega
 rcases Nat.lt_or_ge i n with hlt|hge
 ·have dl:decide ((i:Int)<(n:Int))=true:=decide_eq_true (by omega)
  have hw:wr .i64 ((i:Int)+1)=((i+1:Nat):Int):=wr_succ (by omega)
  rw[show n - i=(n - (i+1))+1 by omega,atFrom]at hxR
  by_cases hE:s.length≤a+i
  ·have dE:decide ((s.length:Int)≤((a+i:Nat):Int))=true:=decide_eq_true (by omega)
   rw[if_pos hE]at hxR
   rw[←hxR,if_pos (by simp)]at hS
   refine go0 (cons_ok refLong_ok nil_ok) 400 ?_
   simp(maxSteps:=4000000)only[go_sem,reduceIte,reduceCtorEq,Z0,Z1,Z2,Z3,Z4,Z5,Z6,Z7,Z8,Z9,ZA,ZB,ZC,ZD,dl,hwa,dE,hS,refLong]
   (repeat' first|apply And.intro|intro _|(show staB _ _=true;kernel_rfl)|(show dynB _ _=true;kernel_rfl)|(show dynP _ _ _=true;kernel_rfl))
   all_goals first|contradiction|omega|rfl|fail
  have dE:decide ((s.length:Int)≤((a+i:Nat):Int))=false:=decide_eq_false (by omega)
  rw[if_neg hE]at hxR
  cases hC:contB (s.getD (a+i) 0)
  ·rw[hC,if_neg (by simp)]at hxR
   rw[←hxR,if_pos (by simp)]at hS
   have hC':(s.getD (a+i) 0).toNat<128∨191<(s.getD (a+i) 0).toNat:=by
    simp only[contB,Bool.and_eq_false_iff,decide_eq_false_iff_not]at hC
    omega
   refine go0 (cons_ok refLong_ok nil_ok) 400 ?_
   simp(maxSteps:=4000000)only[go_sem,reduceIte,reduceCtorEq,Z0,Z1,Z2,Z3,Z4,Z5,Z6,Z7,Z8,Z9,ZA,ZB,ZC,ZD,dl,hwa,dE,hwb,hS,refLong]
   (repeat' first|apply And.intro|intro _|(show staB _ _=true;kernel_rfl)|(show dynB _ _=true;kernel_rfl)|(show dynP _ _ _=true;kernel_rfl))
   all_goals first|contradiction|omega|rfl|fail
  ·rw[hC,if_pos rfl]at hxR
   have hC':128≤(s.getD (a+i) 0).toNat∧(s.getD (a+i) 0).toNat≤191:=by
    simp only[contB,Bool.and_eq_true,decide_eq_true_eq]at hC
    exact hC
   have q1:decide (((s.getD (a+i) 0).toNat:Int)<128)=false:=decide_eq_false (by omega)
   have q2:decide ((191:Int)<((s.getD (a+i) 0).toNat:Int))=false:=decide_eq_false (by omega)
   refine go0 (cons_ok refLong_ok nil_ok) 400 ?_
   simp(maxSteps:=4000000)only[go_sem,reduceIte,reduceCtorEq,Z0,Z1,Z2,Z3,Z4,Z5,Z6,Z7,Z8,Z9,ZA,ZB,ZC,ZD,dl,hwa,dE,hwb,q1,q2,hT,hw,refLong]
   (repeat' first|apply And.intro|intro _|(show staB _ _=true;kernel_rfl)|(show dynB _ _=true;kernel_rfl)|(show dynP _ _ _=true;kernel_rfl))
   all_goals try first|contradiction|omega
   exact⟨(i+1,atN x (s.getD (a+i) 0)),⟨by dsimp only;omega,by dsimp only;omega,hxR⟩,by dsimp only;omega,rfl,rfl⟩
 ·have e:i=n:=by omega
  subst e
  have dl:decide ((i:Int)<(i:Int))=false:=decide_eq_false (by omega)
  rw[Nat.sub_self,atFrom]at hxR
  subst hxR
  rw[if_neg (by simp)]at hS
  dsimp only at hS
  have hG:∀i,([0,0,128,2048,65536]:List Int).getD i 0=leastT.getD i 0:=fun _=>rfl
  refine go0 (cons_ok refLong_ok nil_ok) 400 ?_
  simp(maxSteps:=4000000)only[go_sem,reduceIte,reduceCtorEq,Z0,Z1,Z2,Z3,Z4,Z5,Z6,Z7,Z8,Z9,ZA,ZB,ZC,ZD,dl,hG,refLong]
  (repeat' first|apply And.intro|intro _|(show staB _ _=true;kernel_rfl)|(show dynB _ _=true;kernel_rfl)|(show dynP _ _ _=true;kernel_rfl))
  all_goals try first|contradiction|omega
  all_goals first
   |(rw[hS,if_pos (by assumption)];done)
   |(rw[hS,if_neg (by omega),if_pos (by omega)];done)
   |(rw[hS,if_neg (by omega),if_neg (by omega),if_pos (by omega)];done)
   |(rw[hS,if_neg (by omega),if_neg (by omega),if_neg (by omega)];done)
   |fail
def spotsFrom(s:List UInt8):Nat→Nat→List SpotD
 |0,_=>[]
 |f+1,a=>if a<s.length then spotV s a::spotsFrom s f (a+(spotV s a).2.1.toNat)else []
def spotsV(s:List UInt8):List SpotD:=spotsFrom s s.length 0
theorem spots_len(s:List UInt8):∀f a,(spotsFrom s f a).length≤s.length - a
 |0,_=>by simp[spotsFrom]
 |f+1,a=>by
  rw[spotsFrom]
  split
  ·obtain⟨w,hw,h1,_⟩:=spot_w s a
   have:=spots_len s f (a+(spotV s a).2.1.toNat)
   rw[List.length_cons]
   rw[hw]at this ⊢
   omega
  ·simp
def refSpots:Con:=⟨115,[(false,.str)],[(false,.slice 32 tSpot)],fun x=>(x.1:List UInt8).length≤1000000000000,fun x=>(spotsV x.1,()),false⟩
set_option maxHeartbeats 4000000 in
theorem refSpots_ok:refSpots.Ok Tryz.prog:=by
 refine con_q Tryz.func115 rfl (by decide) (fun x hx hp=>go0 (cons_ok refAt_ok nil_ok) 400 ?_) (by decide)
 obtain⟨(s:List UInt8),⟨⟩⟩:=x
 have hz:s.length≤1000000000000:=hp
 clear hx hp
 simp(maxSteps:=4000000)only[go_sem,reduceIte,reduceCtorEq,Z0,Z1,Z2,Z3,Z4,Z5,Z6,Z7,Z8,Z9,ZA,ZB,ZC,ZD,Tryz.f115,refSpots,refAt]
 (repeat' first|apply And.intro|intro _)
 refine OkQ.virt 32 tSpot ?_
 refine OkQ.loop (α:=List SpotD×Nat) [1,2,3,4,5,6,7,8,9,10,11,12,13,14,15,16,17,18,19,20,21] (fun x=>[(3,.s (.sub 0 0 x.1.length)),(4,.s (.int .i64 (x.2:Int)))]) (fun x=>[(0,.arr false 32 tSpot x.1)]) (fun x=>x.2≤s.length+4∧x.1.length≤x.2∧∃f,s.length - x.2≤f∧spotsV s=x.1++spotsFrom s f x.2) (fun x=>s.length - x.2) ([],0) ⟨by omega,Nat.le_refl _,s.length,by omega,rfl⟩ ?_ fun x hx=>?_
 ·simp(maxSteps:=4000000)only[go_sem,reduceIte,reduceCtorEq,Z0,Z1,Z2,Z3,Z4,Z5,Z6,Z7,Z8,Z9,ZA,ZB,ZC,ZD,refAt]
  all_goals first|rfl|exact⟨rfl,rfl⟩|exact⟨⟨rfl,rfl⟩,rfl⟩|fail
 obtain⟨done,a⟩:=x
 obtain⟨ha,hdl,f,hf,hd⟩:=hx
 dsimp only at ha hdl hf hd ⊢
 rcases Nat.lt_or_ge a s.length with hlt|hge
 ·have dl:decide ((a:Int)<(s.length:Int))=true:=decide_eq_true (by omega)
  obtain⟨w,hw,hw1,hw4⟩:=spot_w s a
  obtain⟨f,rfl⟩:∃f',f=f'+1:=⟨f - 1,by omega⟩
  rw[spotsFrom,if_pos hlt,hw,Int.toNat_natCast]at hd
  obtain⟨x,hx⟩:∃x,x=spotV s a:=⟨_,rfl⟩
  rw[←hx]at hd hw
  have hwa:wr .i64 ((a:Int)+(w:Int))=((a+w:Nat):Int):=by rw[wr_i64 (by omega) (by omega)];omega
  obtain⟨x1,x2,x3,x4,⟨⟩⟩:=x
  dsimp only at hw
  subst hw
  refine go0 (cons_ok refAt_ok nil_ok) 400 ?_
  simp(maxSteps:=4000000)only[go_sem,reduceIte,reduceCtorEq,Z0,Z1,Z2,Z3,Z4,Z5,Z6,Z7,Z8,Z9,ZA,ZB,ZC,ZD,dl,Int.toNat_natCast,←hx,hwa,refAt]
  (repeat' first|apply And.intro|intro _)
  all_goals try first|contradiction|omega|exact Int.natCast_nonneg _|exact Int.ofNat_lt.2 hlt
  refine⟨(done++[(x1,(w:Int),x3,x4,())],a+w),⟨by dsimp only;omega,by simp;omega,f,by dsimp only;omega,by rw[hd];simp⟩,by dsimp only;omega,?_⟩
  simp(maxSteps:=4000000)only[go_sem,reduceIte,reduceCtorEq,Z0,Z1,Z2,Z3,Z4,Z5,Z6,Z7,Z8,Z9,ZA,ZB,ZC,ZD,refAt]
  all_goals first|rfl|exact⟨rfl,rfl⟩|exact⟨⟨by simp,rfl⟩,rfl⟩|exact⟨⟨by simp,rfl⟩,rfl,rfl⟩|simp|fail
 ·have dl:decide ((a:Int)<(s.length:Int))=false:=decide_eq_false (by omega)
  have hnil:spotsFrom s f a=[]:=by
   cases f with
   |zero=>rfl
   |succ f=>rw[spotsFrom,if_neg (by omega)]
  rw[hnil,List.append_nil]at hd
  refine go0 (cons_ok refAt_ok nil_ok) 400 ?_
  simp(maxSteps:=4000000)only[go_sem,reduceIte,reduceCtorEq,Z0,Z1,Z2,Z3,Z4,Z5,Z6,Z7,Z8,Z9,ZA,ZB,ZC,ZD,dl,hd,refAt]
  (repeat' first|apply And.intro|intro _)
  all_goals first|contradiction|omega|rfl|(simp;done)|fail
def dRunes(s:List UInt8):List Int:=(spotsV s).map fun x=>x.2.2.1
def refRunes:Con:=⟨83,[(false,.str)],[(false,.slice 4 (.int .i32))],fun x=>(x.1:List UInt8).length≤1000000000000,fun x=>(dRunes x.1,()),false⟩
set_option maxHeartbeats 4000000 in
theorem refRunes_ok:refRunes.Ok Tryz.prog:=by
 refine con_q Tryz.func83 rfl (by decide) (fun x hx hp=>go0 (cons_ok refSpots_ok nil_ok) 400 ?_) (by decide)
 obtain⟨(s:List UInt8),⟨⟩⟩:=x
 have hz:s.length≤1000000000000:=hp
 clear hx hp
 have hL:(spotsV s).length≤s.length:=by have:=spots_len s s.length 0;unfold spotsV;omega
 have hR:dRunes s=(spotsV s).map fun x=>x.2.2.1:=rfl
 simp(maxSteps:=4000000)only[go_sem,reduceIte,reduceCtorEq,Z0,Z1,Z2,Z3,Z4,Z5,Z6,Z7,Z8,Z9,ZA,ZB,ZC,ZD,Tryz.f83,refRunes,refSpots]
 generalize spotsV s=L at*
 (repeat' first|apply And.intro|intro _)
 all_goals try omega
 refine OkQ.virt 4 (.int .i32) ?_
 refine OkQ.loop (α:=Nat) [0,1,2,4,5,6,7,8,9,10,11,12,13,14,15,16,17,18,19,20,21,22] (fun i=>[(4,.s (.sub 1 0 ((L.take i).map fun x=>x.2.2.1).length)),(5,.s (.int .i64 (i:Int)))]) (fun i=>[(1,.arr false 4 (.int .i32) ((L.take i).map fun x=>x.2.2.1))]) (fun i=>i≤L.length) (fun i=>L.length - i) 0 (Nat.zero_le _) ?_ fun i hi=>?_
 ·simp(maxSteps:=4000000)only[go_sem,reduceIte,reduceCtorEq,Z0,Z1,Z2,Z3,Z4,Z5,Z6,Z7,Z8,Z9,ZA,ZB,ZC,ZD,refSpots]
  all_goals first|rfl|exact⟨rfl,rfl⟩|exact⟨⟨rfl,rfl⟩,rfl⟩|fail
 have hll:((L.take i).map fun x=>x.2.2.1).length=i:=by simp;omega
 rcases Nat.lt_or_ge i L.length with hlt|hge
 ·have dl:decide ((i:Int)<(L.length:Int))=true:=decide_eq_true (by omega)
  have hw:wr .i64 ((i:Int)+1)=((i+1:Nat):Int):=wr_succ (by omega)
  have hn:(L.take (i+1)).map (fun x=>x.2.2.1)=(L.take i).map (fun x=>x.2.2.1)++[(L.getD i (0,0,0,0,())).2.2.1]:=by
   rw[List.take_succ_eq_append_getElem hlt,List.map_append]
   congr 1
   simp[List.getD_eq_getElem?_getD,hlt]
  refine go0 (cons_ok refSpots_ok nil_ok) 400 ?_
  simp(maxSteps:=4000000)only[go_sem,reduceIte,reduceCtorEq,Z0,Z1,Z2,Z3,Z4,Z5,Z6,Z7,Z8,Z9,ZA,ZB,ZC,ZD,dl,hw,refSpots]
  (repeat' first|apply And.intro|intro _)
  all_goals try first|contradiction|omega
  refine⟨i+1,by omega,by omega,?_⟩
  rw[hn]
  simp(maxSteps:=4000000)only[go_sem,reduceIte,reduceCtorEq,Z0,Z1,Z2,Z3,Z4,Z5,Z6,Z7,Z8,Z9,ZA,ZB,ZC,ZD,refSpots]
  all_goals first|rfl|exact⟨rfl,rfl⟩|exact⟨⟨by simp,rfl⟩,rfl⟩|simp|fail
 ·have e:i=L.length:=by omega
  subst e
  have dl:decide ((L.length:Int)<(L.length:Int))=false:=decide_eq_false (by omega)
  rw[List.take_length]at hll ⊢
  rw[←hR]at hll ⊢
  refine go0 (cons_ok refSpots_ok nil_ok) 400 ?_
  simp(maxSteps:=4000000)only[go_sem,reduceIte,reduceCtorEq,Z0,Z1,Z2,Z3,Z4,Z5,Z6,Z7,Z8,Z9,ZA,ZB,ZC,ZD,dl,refSpots]
  (repeat' first|apply And.intro|intro _)
  all_goals first|contradiction|omega|rfl|(simp;done)|(rw[←hll,List.take_length];done)|fail
end Go.Proofs.YtcbmonndkjihkaaGreatDoor.Sx
namespace Go.Proofs.YtcbmonndkjihkaaGreatDoor.Sx
attribute [local irreducible] OkQ Ok
set_option linter.unusedSimpArgs false
set_option linter.unusedVariables false
theorem bIPc161:bodyI Tryz.prog 161=bodyF Tryz.f161:=by kernel_rfl
theorem nEPc161:isEsc Tryz.prog 161=false:=by kernel_rfl
open Nat renaming reduceEqDiff→Z0,reduceBEq→Z1,reduceAdd→Z2,reduceSub→Z3,reduceMul→Z4,reduceLeDiff→Z5
open Int renaming reduceEq→Z6,reduceLE→Z7,reduceLT→Z8,reduceNeg→Z9,reduceToNat→ZA,reduceAdd→ZB,reduceSub→ZC,reduceMul→ZD
set_option maxRecDepth 8000
def dScal(r:Int):Bool:=decide (0≤r)&&(decide (r≤1114111)&&(decide (r<55296)||decide (57343<r)))
def o1(n:Int):List UInt8:=[UInt8.ofNat (wr .u8 n).toNat]
def seqV(r:Int):List UInt8:=
 if dScal r=false then [239,191,189]else if r<128 then o1 r else
 if r<2048 then o1 (wr .i64 (192+wr .i64 (r.tdiv 64)))++o1 (wr .i64 (128+r.tmod 64))else
 if r<65536 then o1 (wr .i64 (224+wr .i64 (r.tdiv 4096)))++o1 (wr .i64 (128+(wr .i64 (r.tdiv 64)).tmod 64))++o1 (wr .i64 (128+r.tmod 64))else
 o1 (wr .i64 (240+wr .i64 (r.tdiv 262144)))++o1 (wr .i64 (128+(wr .i64 (r.tdiv 4096)).tmod 64))++o1 (wr .i64 (128+(wr .i64 (r.tdiv 64)).tmod 64))++o1 (wr .i64 (128+r.tmod 64))
theorem seqV_len(r:Int):(seqV r).length≤4:=by
 unfold seqV o1
 repeat' split
 all_goals simp
def refOne:Con:=⟨138,[(false,.int .i64)],[(false,.str)],fun _=>True,fun x=>(o1 x.1,()),false⟩
theorem refOne_ok:refOne.Ok Tryz.prog:=by
 refine con_q Tryz.func138 rfl (by decide) (fun x hx hp=>go0 nil_ok 400 ?_) (by decide)
 obtain⟨(n:Int),⟨⟩⟩:=x
 clear hx hp
 simp(maxSteps:=4000000)only[go_sem,reduceIte,reduceCtorEq,Z0,Z1,Z2,Z3,Z4,Z5,Z6,Z7,Z8,Z9,ZA,ZB,ZC,ZD,Tryz.f138,refOne,o1]
 (repeat' first|apply And.intro|intro _)
 all_goals first|contradiction|omega|rfl|fail
def refWid:Con:=⟨137,[(false,.int .i32)],[(false,.int .i64)],fun _=>True,fun x=>(if dScal x.1=false then 0 else if(x.1:Int)<128 then 1 else if(x.1:Int)<2048 then 2 else if(x.1:Int)<65536 then 3 else 4,()),false⟩
theorem refWid_ok:refWid.Ok Tryz.prog:=by
 refine con_q Tryz.func137 rfl (by decide) (fun x hx hp=>run_ok (Cs:=[]) (stp:=[]) (inl:=[161]) (unr:=false) nil_ok 400 _ _ _ _ ?_) (by decide)
 obtain⟨(r:Int),⟨⟩⟩:=x
 clear hx hp
 have hs:dScal r=true↔(0≤r∧r≤1114111∧(r<55296∨57343<r)):=by
  unfold dScal
  simp
 simp(maxSteps:=4000000)only[go_sem,reduceIte,reduceCtorEq,Z0,Z1,Z2,Z3,Z4,Z5,Z6,Z7,Z8,Z9,ZA,ZB,ZC,ZD,Tryz.f137,refWid,bIPc161,nEPc161,Tryz.f161]
 (repeat' first|apply And.intro|intro _)
 all_goals first
  |contradiction
  |omega
  |(rw[if_pos (by rw[←Bool.not_eq_true,hs];omega)];done)
  |(rw[if_neg (by rw[Bool.not_eq_false,hs];omega),if_pos (by omega)];done)
  |(rw[if_neg (by rw[Bool.not_eq_false,hs];omega),if_neg (by omega),if_pos (by omega)];done)
  |(rw[if_neg (by rw[Bool.not_eq_false,hs];omega),if_neg (by omega),if_neg (by omega),if_pos (by omega)];done)
  |(rw[if_neg (by rw[Bool.not_eq_false,hs];omega),if_neg (by omega),if_neg (by omega),if_neg (by omega)];done)
  |fail
def refSeq:Con:=⟨116,[(false,.int .i32)],[(false,.str)],fun _=>True,fun x=>(seqV x.1,()),false⟩
set_option maxHeartbeats 1000000 in
theorem refSeq_ok:refSeq.Ok Tryz.prog:=by
 refine con_q Tryz.func116 rfl (by decide) (fun x hx hp=>go0 (cons_ok refOne_ok (cons_ok refWid_ok nil_ok)) 0 ?_) (by decide)
 obtain⟨(r:Int),⟨⟩⟩:=x
 have hr: -2147483648≤r∧r≤2147483647:=by
  have:IntKind.i32.has r:=hx.1
  simpa[IntKind.has,IntKind.min,IntKind.max,IntKind.signed,IntKind.bits]using this
 have hwr:wr .i64 r=r:=wr_i64 (by omega) (by omega)
 have ol:∀n,(o1 n).length=1:=fun _=>rfl
 have t0:decide ((0:Int)=1)=false:=by decide
 have t1:decide ((0:Int)=2)=false:=by decide
 have t2:decide ((0:Int)=3)=false:=by decide
 have t3:decide ((0:Int)=4)=false:=by decide
 clear hx hp
 cases hS:dScal r
 ·have e:seqV r=[239,191,189]:=by rw[seqV,if_pos hS]
  refine go0 (cons_ok refOne_ok (cons_ok refWid_ok nil_ok)) 400 ?_
  simp(maxSteps:=4000000)only[go_sem,reduceIte,reduceCtorEq,Z0,Z1,Z2,Z3,Z4,Z5,Z6,Z7,Z8,Z9,ZA,ZB,ZC,ZD,Tryz.f116,refSeq,hwr,hS,if_true,e,refOne,refWid]
  (repeat' first|apply And.intro|intro _)
  all_goals first|contradiction|omega|rfl|fail
 have hS':¬dScal r=false:=by rw[hS];simp
 have hS2:(true=false)=False:=by simp
 by_cases h1:r<128
 ·have e:seqV r=o1 r:=by rw[seqV,if_neg hS',if_pos h1]
  refine go0 (cons_ok refOne_ok (cons_ok refWid_ok nil_ok)) 400 ?_
  simp(maxSteps:=4000000)only[go_sem,reduceIte,reduceCtorEq,Z0,Z1,Z2,Z3,Z4,Z5,Z6,Z7,Z8,Z9,ZA,ZB,ZC,ZD,Tryz.f116,refSeq,hwr,hS,hS2,h1,e,refOne,refWid]
  (repeat' first|apply And.intro|intro _)
  all_goals first|contradiction|omega|rfl|fail
 by_cases h2:r<2048
 ·have e:seqV r=o1 (wr .i64 (192+wr .i64 (r.tdiv 64)))++o1 (wr .i64 (128+r.tmod 64)):=by rw[seqV,if_neg hS',if_neg h1,if_pos h2]
  refine go0 (cons_ok refOne_ok (cons_ok refWid_ok nil_ok)) 400 ?_
  simp(maxSteps:=4000000)only[go_sem,reduceIte,reduceCtorEq,Z0,Z1,Z2,Z3,Z4,Z5,Z6,Z7,Z8,Z9,ZA,ZB,ZC,ZD,Tryz.f116,refSeq,hwr,hS,hS2,h1,h2,e,ol,refOne,refWid]
  (repeat' first|apply And.intro|intro _)
  all_goals first|contradiction|omega|rfl|fail
 by_cases h3:r<65536
 ·have e:seqV r=o1 (wr .i64 (224+wr .i64 (r.tdiv 4096)))++o1 (wr .i64 (128+(wr .i64 (r.tdiv 64)).tmod 64))++o1 (wr .i64 (128+r.tmod 64)):=by rw[seqV,if_neg hS',if_neg h1,if_neg h2,if_pos h3]
  refine go0 (cons_ok refOne_ok (cons_ok refWid_ok nil_ok)) 400 ?_
  simp(maxSteps:=4000000)only[go_sem,reduceIte,reduceCtorEq,Z0,Z1,Z2,Z3,Z4,Z5,Z6,Z7,Z8,Z9,ZA,ZB,ZC,ZD,Tryz.f116,refSeq,hwr,hS,hS2,h1,h2,h3,e,ol,List.length_append,refOne,refWid]
  (repeat' first|apply And.intro|intro _)
  all_goals first|contradiction|omega|rfl|fail
 ·have e:seqV r=o1 (wr .i64 (240+wr .i64 (r.tdiv 262144)))++o1 (wr .i64 (128+(wr .i64 (r.tdiv 4096)).tmod 64))++o1 (wr .i64 (128+(wr .i64 (r.tdiv 64)).tmod 64))++o1 (wr .i64 (128+r.tmod 64)):=by rw[seqV,if_neg hS',if_neg h1,if_neg h2,if_neg h3]
  refine go0 (cons_ok refOne_ok (cons_ok refWid_ok nil_ok)) 400 ?_
  simp(maxSteps:=4000000)only[go_sem,reduceIte,reduceCtorEq,Z0,Z1,Z2,Z3,Z4,Z5,Z6,Z7,Z8,Z9,ZA,ZB,ZC,ZD,Tryz.f116,refSeq,hwr,hS,hS2,h1,h2,h3,e,ol,List.length_append,refOne,refWid]
  (repeat' first|apply And.intro|intro _)
  all_goals first|contradiction|omega|rfl|fail
def dEnc(l:List Int):List UInt8:=(l.map seqV).flatten
theorem dEnc_len(l:List Int):(dEnc l).length≤4*l.length:=by
 unfold dEnc
 induction l with
 |nil=>simp
 |cons a l ih=>
  have:=seqV_len a
  simp at ih ⊢
  omega
def refEnc:Con:=⟨85,[(false,.slice 4 (.int .i32))],[(false,.str)],fun x=>(x.1:List Int).length≤1000000000000,fun x=>(dEnc x.1,()),false⟩
set_option maxHeartbeats 1000000 in
theorem refEnc_ok:refEnc.Ok Tryz.prog:=by
 refine con_q Tryz.func85 rfl (by decide) (fun x hx hp=>go0 (cons_ok refSeq_ok nil_ok) 400 ?_) (by decide)
 obtain⟨(L:List Int),⟨⟩⟩:=x
 have hz:L.length≤1000000000000:=hp
 clear hx hp
 simp(maxSteps:=4000000)only[go_sem,reduceIte,reduceCtorEq,Z0,Z1,Z2,Z3,Z4,Z5,Z6,Z7,Z8,Z9,ZA,ZB,ZC,ZD,Tryz.f85,refEnc,refSeq]
 (repeat' first|apply And.intro|intro _)
 all_goals try omega
 refine OkQ.loop (α:=Nat) [1,2,3,4,5,6,7,8,9,10,11,12,13,14,15,16,17,18] (fun i=>[(3,.s (.str (dEnc (L.take i)))),(4,.s (.int .i64 (i:Int)))]) (fun i=>[]) (fun i=>i≤L.length) (fun i=>L.length - i) 0 (Nat.zero_le _) ?_ fun i hi=>?_
 ·simp(maxSteps:=4000000)only[go_sem,reduceIte,reduceCtorEq,Z0,Z1,Z2,Z3,Z4,Z5,Z6,Z7,Z8,Z9,ZA,ZB,ZC,ZD,refSeq]
  all_goals first|rfl|exact⟨rfl,rfl⟩|fail
 have hel:=dEnc_len (L.take i)
 rw[List.length_take]at hel
 rcases Nat.lt_or_ge i L.length with hlt|hge
 ·have dl:decide ((i:Int)<(L.length:Int))=true:=decide_eq_true (by omega)
  have hw:wr .i64 ((i:Int)+1)=((i+1:Nat):Int):=wr_succ (by omega)
  have hn:dEnc (L.take (i+1))=dEnc (L.take i)++seqV (L.getD i 0):=by
   unfold dEnc
   rw[List.take_succ_eq_append_getElem hlt,List.map_append,List.flatten_append]
   simp[List.getD_eq_getElem?_getD,hlt]
  have hsl:=seqV_len (L.getD i 0)
  refine go0 (cons_ok refSeq_ok nil_ok) 400 ?_
  simp(maxSteps:=4000000)only[go_sem,reduceIte,reduceCtorEq,Z0,Z1,Z2,Z3,Z4,Z5,Z6,Z7,Z8,Z9,ZA,ZB,ZC,ZD,dl,hw,refSeq]
  (repeat' first|apply And.intro|intro _)
  all_goals try first|contradiction|omega
  exact⟨i+1,by omega,by omega,hn.symm,rfl⟩
 ·have e:i=L.length:=by omega
  subst e
  have dl:decide ((L.length:Int)<(L.length:Int))=false:=decide_eq_false (by omega)
  rw[List.take_length]
  refine go0 (cons_ok refSeq_ok nil_ok) 400 ?_
  simp(maxSteps:=4000000)only[go_sem,reduceIte,reduceCtorEq,Z0,Z1,Z2,Z3,Z4,Z5,Z6,Z7,Z8,Z9,ZA,ZB,ZC,ZD,dl,refSeq]
  (repeat' first|apply And.intro|intro _)
  all_goals first|contradiction|omega|rfl|fail
end Go.Proofs.YtcbmonndkjihkaaGreatDoor.Sx
