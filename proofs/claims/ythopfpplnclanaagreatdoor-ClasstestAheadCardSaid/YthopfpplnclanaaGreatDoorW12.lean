/- A part of the proof. -/
import Derived.Test.YthopfpplnclanaaGreatDoorW8
import Derived.Test.YthopfpplnclanaaGreatDoorW5
import Derived.Test.YthopfpplnclanaaGreatDoorW0
import Derived.Test.YthopfpplnclanaaGreatDoorW1
import Derived.Test.YthopfpplnclanaaGreatDoorW2
import Derived.Test.YthopfpplnclanaaGreatDoorW3
import Derived.Test.YthopfpplnclanaaGreatDoorW4
import Derived.Test.YthopfpplnclanaaGreatDoorW6
import Derived.Test.YthopfpplnclanaaGreatDoorW7
namespace Go.Proofs.YthopfpplnclanaaGreatDoor.Sx
set_option linter.unusedSimpArgs false
set_option linter.unusedVariables false
noncomputable section
theorem OkQ.unroll1{P:Program}{kp:List Nat}{Q:St→Prop}{x:Code}{k:List It}{st:St}(h:OkQ P kp Q (.c x:: .lp x::k) st):OkQ P kp Q (.c (.loop x)::k) st:=
 fun G B hs hQ=>Ok.unroll (h G B hs hQ)
section
variable{P:Program}{G:Ctx}{B:Exit→Act→World→Prop}
theorem inline_if{R:SV→List (Nat×Ob)→Nat→Prop}{o:Oper}{st:St}{f:Operand}{name:String}{ats:Array TypeId}{tt:TypeId}{ob:Nat}{g:FuncId}{fn:Func}{code:Code}(hop:o.op= .call {callee:= .invoke f name,args:= #[],argTypes:=ats})
 (hfv:pkV (ev st.fr f)= .s (.ifp tt ob 0)) (hpk:pkP (ev st.fr f)) (hbx:boxes (fo st.hp) [(ob,0)]=true)
 (hm:∀b w,(callMethod (.iface tt (.pointer (some ⟨b,0,none⟩))) name #[]).run P w= .ok (.enter g #[.pointer (some ⟨b,0,none⟩)]) w)
 (hf:P.funcs[g]? =some fn) (hb:fn.body=some code) (hsz:1≤fn.ntmps)
 (h:∀(G':Ctx) (B':Exit→Act→World→Prop),(∀p∈G'.sus,(∃i,p.1=gl st.fr i)∨p∈G.sus)→(G'.rds=G.rds∧G'.st0=G.st0)→(∀st2 E2 a2 w2,RetI P fn.results.toList R st2→Conc P G' st2 E2 a2 w2→B' .ret a2 w2∧B' .normal a2 w2)→
   Ok P G' B' [.c code] ⟨appSV (pbs [(ob,0)]) (unks (fn.ntmps - 1)),st.hp,st.nx⟩)
 {E:Env} {a:Act} {w:World} (hc:Conc P G st E a w) {K:Act→World→Prop} {Q:Exit→Act→World→Prop} (hK:∀v hp nx E a w,R v hp nx→Conc P G ⟨setD st.fr o.dst v,hp,nx⟩ E a w→K a w):o.wpIn (Fr G.rd) 0 P a w K Q:=by
 have hfe:=hc.pre.pk hpk
 rw[hfv]at hfe
 have hbx':=boxes_ok hc.pre.ob [(ob,0)] hbx
 obtain⟨hbn,hm2⟩:=hfe
 obtain⟨Tb,cs,hcs⟩:=hbx' ob 0 (by simp)
 rw[hcs]at hm2
 obtain⟨b,hl1,hl2⟩:=hm2
 obtain⟨d,op,ty,pos,af,gd⟩:=o
 simp only at hop
 subst hop
 have hrun:(execOp a.eval ⟨d,.call {callee:= .invoke f name,args:= #[],argTypes:=ats},ty,pos,af,gd⟩).run P w= .ok (.enter g #[.pointer (some ⟨b,0,none⟩)]) w:=by
  have:=hm b w
  simp[execOp,resolve,invoke,hl2,this]
 refine op_in (fun c' e=>by cases e) ?_
 unfold Oper.wp
 rw[hrun,Oper.upon_enter]
 refine(callsIn_fr (r:=none) (n:=0)).1 (callsIn_of_wp_marks hf hb trivial ?_ rfl)
 obtain⟨bs,hde,hnd,hbs⟩:=hc.dfr
 let G':Ctx:= {G with sus:=((List.range st.fr.length).map fun i=>(gl st.fr i,a.tmps.getD i undef))++G.sus,rd:=none,mrk:=bs++G.mrk}
 refine h G' _ ?_ ⟨rfl,rfl⟩ (fun st2 E2 a2 w2 hr hc2=>?_) E _ w ⟨⟨⟨hc.pre.mem.hp,hc.pre.mem.unb,hc.pre.mem.sep,hc.pre.mem.new,hc.pre.mem.bad,hc.pre.mem.bd,hc.pre.mem.os,hc.pre.mem.tape,hc.pre.mem.output,hc.pre.mem.size,hc.pre.mem.old,?_,hc.pre.mem.rdk,?_,hc.pre.mem.gl,hc.pre.mem.ev⟩,hc.pre.ob,fun i=>?_⟩,hc.born,?_,⟨[],rfl,hnd,fun b hb=>(by cases hb)⟩,fun p hp=>(by cases hp)⟩
 ·intro p hp
  rcases List.mem_append.1 hp with hp|hp
  ·obtain⟨i,_,rfl⟩:=List.mem_map.1 hp
   exact .inl ⟨i,rfl⟩
  ·exact .inr hp
 ·unfold RetI at hr
  split at hr
  ·rename_i p cs hrv
   obtain⟨hp,hok⟩:=hr
   have key:∀a' w',a'.tmps=a2.tmps→Conc P G' st2 E2 a' w'→∃v,(results fn a2.tmps).run P w'= .ok v w'∧K (a.put d v) w':=fun a' w' ht hc2=>by
    rw[←ht]
    obtain⟨vs,hv1,hv2⟩:=retV_ok hc2.pre _ p cs hrv hp
    have m:=hc2.pre.mem
    refine⟨_,results_run hv1,hK _ _ _ E2 _ w' hok ?_⟩
    have hfr:∀i,SVok E2 w' (gl st.fr i) (a.tmps.getD i undef):=by
     intro i
     rcases Nat.lt_or_ge i st.fr.length with hi|hi
     ·exact m.sus _ (List.mem_append_left _ (List.mem_map.2 ⟨i,List.mem_range.2 hi,rfl⟩))
     ·rw[gl_out _ _ hi];trivial
    obtain⟨k1,k2⟩:=fr_put (E:=E2) (w:=w') (fr:=st.fr) (d:=d) hc.len hfr (resV_ok hv2)
    exact⟨⟨⟨m.hp,m.unb,m.sep,m.new,m.bad,m.bd,m.os,m.tape,m.output,m.size,m.old,fun p hp=>m.sus p (List.mem_append_right _ hp),m.rdk,fun b hb=>m.mks b (List.mem_append_right _ hb),m.gl,m.ev⟩,hc2.pre.ob,k2⟩,hc2.born,k1,
     put_dfr (G:=G) ⟨bs,hde,hnd,fun b hb=>⟨(hbs b hb).1,m.mks b (List.mem_append_left _ hb)⟩⟩,hc.rd⟩
   exact⟨hc2.leave key,hc2.leave key⟩
  ·exact hr.elim
 ·intro p hp
  rcases List.mem_append.1 hp with hp|hp
  ·obtain⟨i,_,rfl⟩:=List.mem_map.1 hp
   exact hc.pre.fr i
  ·exact hc.pre.mem.sus p hp
 ·intro b hb
  rcases List.mem_append.1 hb with hb|hb
  ·exact(hbs b hb).2
  ·exact hc.pre.mem.mks b hb
 ·rw[gl_app,pbs_len]
  by_cases hi2:i<[(ob,0)].length
  ·rw[if_pos hi2,pbs_at,List.getElem?_eq_getElem hi2]
   have hi0:i=0:=by simp at hi2;omega
   subst hi0
   refine⟨hbn,?_⟩
   show match E.ob ob with|_=>_
   rw[hcs]
   exact⟨b,hl1,by simp[Array.getElem?_append]⟩
  ·rw[if_neg hi2,gl_unks];trivial
 ·simp[app_len,unks_len,pbs_len]
end
theorem OkQ.callIf{P:Program}{kp:List Nat}{Q:St→Prop}{all l:List Oper}{o:Oper}{k:List It}{st:St}{f:Operand}{name:String}{ats:Array TypeId}{tt:TypeId}{ob:Nat}{g:FuncId}{code:Code}{rs:List ResultVar}{nt:Nat}
 (hm:∀b w,(callMethod (.iface tt (.pointer (some ⟨b,0,none⟩))) name #[]).run P w= .ok (.enter g #[.pointer (some ⟨b,0,none⟩)]) w)
 (hop:o.op= .call {callee:= .invoke f name,args:= #[],argTypes:=ats}) (hg:o.guard=none∨∃j want,o.guard=some (j,want)∧gval all st.fr j want=some true) (hfv:pkV (ev st.fr f)= .s (.ifp tt ob 0)) (hpk:pkP (ev st.fr f)) (hbx:boxes (fo st.hp) [(ob,0)]=true)
 (hbi:bodyI P g=some (code,rs,nt)) (hsz:1≤nt)
 (h:OkQ P (ddN (idsF st.fr++kp)) (RetI P rs fun v hp nx=>OkQ P kp Q (.ops all l::k) ⟨setD st.fr o.dst v,hp,nx⟩) [.c code] ⟨appSV (pbs [(ob,0)]) (unks (nt - 1)),st.hp,st.nx⟩):OkQ P kp Q (.ops all (o::l)::k) st:=by
 intro G B hs hQ E a w hc
 obtain⟨fn,h5,h7,h6,rfl,rfl⟩:=bodyI_some hbi
 have key:∀(K:Act→World→Prop) (R:Exit→Act→World→Prop),(∀v hp nx E a w,Ok P G B (.ops all l::k) ⟨setD st.fr o.dst v,hp,nx⟩→Conc P G ⟨setD st.fr o.dst v,hp,nx⟩ E a w→K a w)→o.wpIn (Fr G.rd) 0 P a w K R:=fun K R hK=>
  inline_if (R:=fun v hp nx=>Ok P G B (.ops all l::k) ⟨setD st.fr o.dst v,hp,nx⟩) hop hfv hpk hbx hm h5 h6 hsz (fun G' B' hs' hr' hB'=>by
   refine h G' B' ⟨fun p hp i hi=>?_,fun p hp=>?_,fun E0 w1 h0 o ho=>?_⟩ fun st2 E2 a2 w2 hr hc2=>hB' st2 E2 a2 w2 (RetI.mono (fun v hp nx hv=>hv G B hs hQ) hr) hc2
   ·rcases hs' p hp with⟨j,hj⟩|hp
    ·rw[hj]at hi
     exact mem_ddN (List.mem_append_left _ (idsF_at _ _ _ hi))
    ·exact mem_ddN (List.mem_append_right _ (hs.1 p hp i hi))
   ·rw[hr'.1]at hp
    exact mem_ddN (List.mem_append_right _ (hs.2.1 p hp))
   ·exact mem_ddN (List.mem_append_right _ (hs.2.2 E0 w1 (hr'.2.symm.trans h0) o ho))) hc hK
 rcases hg with hg|⟨j,want,hg,hv⟩
 ·exact wpListIn_plain hg fun K hK=>key _ _ fun v hp nx E a w hok hcc=>hK _ _ (hok E a w hcc)
 ·refine wpListIn_step fun K hK=>?_
  have hw:=gval_ok hc hg hv
  rw[if_pos hw]
  exact key _ _ fun v hp nx E a w hok hcc=>hK _ _ (hok E a w hcc)
end
end Go.Proofs.YthopfpplnclanaaGreatDoor.Sx
