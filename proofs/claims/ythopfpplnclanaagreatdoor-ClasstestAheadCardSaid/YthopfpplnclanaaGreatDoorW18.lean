/- A part of the proof. -/
import Derived.Test.YthopfpplnclanaaGreatDoorW9
import Derived.Test.YthopfpplnclanaaGreatDoorW10
import Derived.Test.YthopfpplnclanaaGreatDoorW11
import Derived.Test.YthopfpplnclanaaGreatDoorW17
import Derived.Test.YthopfpplnclanaaGreatDoorW12
import Derived.Test.YthopfpplnclanaaGreatDoorW3
import Derived.Test.YthopfpplnclanaaGreatDoorW5
import Derived.Test.YthopfpplnclanaaGreatDoorW0
import Derived.Test.YthopfpplnclanaaGreatDoorW1
import Derived.Test.YthopfpplnclanaaGreatDoorW2
import Derived.Test.YthopfpplnclanaaGreatDoorW4
import Derived.Test.YthopfpplnclanaaGreatDoorW6
import Derived.Test.YthopfpplnclanaaGreatDoorW7
import Derived.Test.YthopfpplnclanaaGreatDoorW8
import Derived.Test.YthopfpplnclanaaGreatDoorW13
import Derived.Test.YthopfpplnclanaaGreatDoorW14
import Derived.Test.YthopfpplnclanaaGreatDoorW15
import Derived.Test.YthopfpplnclanaaGreatDoorW16
namespace Go.Proofs.YthopfpplnclanaaGreatDoor.Sx
attribute [local irreducible] OkQ Ok
set_option linter.unusedSimpArgs false
set_option linter.unusedVariables false
set_option maxRecDepth 8000
theorem cEach_e:cEach.Ok Tryz.prog∧cEachX.Ok Tryz.prog:=eRound.2 fun file t few x hz hx=>by
 by_cases hq:x.1<(pcsV t).length∧¬(pAt t x).1=(pAt t x).2.2.1∧scanE (lineOf t (pAt t x))=0
 case neg=>exact ea_A file t few x hz hx hq
 obtain⟨hlt,hE,hS⟩:=hq
 by_cases h2:(lAt t x).2.1=2
 ·by_cases hL:(lAt t x).2.2.1=levS
  ·exact ea_L file t few x hz hx hlt hE hS h2 hL
  by_cases hR:(lAt t x).2.2.1=reoS
  ·exact ea_O file t few x hz hx hlt hE hS h2 hL hR
  ·exact ea_N file t few x hz hx hlt hE hS h2 hL hR
 by_cases h1:(lAt t x).2.1=1
 ·exact ea_D file t few x hz hx hlt hE hS h2 h1
 ·exact ea_K file t few x hz hx hlt hE hS h2 h1
theorem cEach_ok:cEach.Ok Tryz.prog:=cEach_e.1
theorem cEachX_ok:cEachX.Ok Tryz.prog:=cEach_e.2
end Go.Proofs.YthopfpplnclanaaGreatDoor.Sx
namespace Go.Proofs.YthopfpplnclanaaGreatDoor.Sx
set_option linter.unusedSimpArgs false
set_option linter.unusedVariables false
noncomputable section
theorem OkQ.skip{P:Program}{kp:List Nat}{Q:St→Prop}{all l:List Oper}{o:Oper}{k:List It}{st:St}{j:Nat}{want:Bool}(X:SV)(hg:o.guard=some (j,want))(hv:gval all st.fr j want=some false)
 (h:OkQ P kp Q (.ops all l::k) ⟨setD st.fr o.dst (.gd false X),st.hp,st.nx⟩):OkQ P kp Q (.ops all (o::l)::k) st:=by
 intro G B hs hQ E a w hc
 refine wpListIn_step fun K hK=>?_
 have hw:=gval_ok hc hg hv
 rw[if_neg (by rw[hw];simp)]
 exact⟨fun _ _=>Fr_fn,hK _ _ (h G B hs hQ E _ w (hc.behind hc.pre.mem Evo.rfl' hc.pre.ob (fun i hi=> .inl hi) (X:= .gd false X) ⟨fun h0=>(by cases h0),fun _=>rfl⟩ (Nat.le_refl _)))⟩
end
end Go.Proofs.YthopfpplnclanaaGreatDoor.Sx
namespace Go.Proofs.YthopfpplnclanaaGreatDoor.Sx
attribute [local irreducible] OkQ Ok
set_option linter.unusedSimpArgs false
set_option linter.unusedVariables false
set_option maxRecDepth 8000
theorem fault_Error:∀b w,(callMethod (.iface 76 (.pointer (some ⟨b,0,none⟩))) "Error" #[]).run Tryz.prog w= .ok (.enter 118 #[.pointer (some ⟨b,0,none⟩)]) w:=fun b w=>by
 kernel_rfl
end Go.Proofs.YthopfpplnclanaaGreatDoor.Sx
namespace Go.Proofs.YthopfpplnclanaaGreatDoor.Sx
attribute [local irreducible] OkQ Ok
set_option linter.unusedSimpArgs false
set_option linter.unusedVariables false
set_option maxRecDepth 8000
theorem st_count(st:StD)(l:LnD):(stC st l).2.2.length≤1:=by
 unfold stC
 repeat' split
 all_goals simp
theorem cd_count(t:List UInt8):∀(ps:List PcD) (no:Nat) (st:StD) (out:List CD),(cdFold t no ps st out).2.2.length≤out.length+ps.length
 |[],_,_,_=>by rw[cdFold];simp
 |p::ps,no,st,out=>by
  rw[cdFold]
  split
  ·simp
  split
  ·simp
  split
  ·simp
  ·have h1:=cd_count t ps (no+1) (stC st (partsV (no:Int) (lineOf t p))).2.1 (out++(stC st (partsV (no:Int) (lineOf t p))).2.2)
   have h2:=st_count st (partsV (no:Int) (lineOf t p))
   rw[List.length_append]at h1
   rw[List.length_cons]
   omega
theorem cases_count(t:List UInt8):(casesV t).2.2.length≤t.length+1:=by
 have h1:=cd_count t (pcsV t) 1 stZ []
 have h2:=pcs_len t (t.length+1) (bomN t) (bom_len t)
 unfold casesV
 unfold pcsV at h1 ⊢
 simp at h1
 omega
theorem err_bnd(s:List UInt8)(k:Nat):0≤errAt s k∧errAt s k≤1000:=by
 unfold errAt
 repeat' split
 all_goals decide
theorem chk_bnd(s:List UInt8):∀f k,0≤(chkFrom s f k).2∧(chkFrom s f k).2≤1000
 |0,_=>by rw[chkFrom];decide
 |f+1,k=>by
  rw[chkFrom]
  split
  ·split
   ·exact chk_bnd s f (k+1)
   ·exact err_bnd s k
  ·decide
theorem scan_bnd(s:List UInt8):0≤scanE s∧scanE s≤1000:=by
 unfold scanE
 split
 ·exact chk_bnd s _ _
 ·split<;>decide
theorem chkV_bnd(c:CD):0≤chkV c∧chkV c≤1000:=by
 unfold chkV
 repeat' split
 all_goals decide
theorem stC_bnd(st:StD)(l:LnD):0≤(stC st l).1∧(stC st l).1≤1000:=by
 have hm:0≤(madeC st l).1∧(madeC st l).1≤1000:=by
  unfold madeC
  repeat' split
  all_goals first|exact chkV_bnd _|(dsimp only;omega)
 unfold stC
 repeat' split
 all_goals first|exact hm|(dsimp only;omega)
theorem cd_bnd(t:List UInt8):∀(ps:List PcD) (no:Nat) (st:StD) (out:List CD),(0≤(cdFold t no ps st out).1∧(cdFold t no ps st out).1≤1000)∧0≤(cdFold t no ps st out).2.1∧(cdFold t no ps st out).2.1≤(no:Int)+(ps.length:Int)
 |[],no,_,_=>by
  rw[cdFold]
  dsimp only
  refine⟨⟨by omega,by omega⟩,by omega,by omega⟩
 |p::ps,no,st,out=>by
  rw[cdFold]
  split
  ·dsimp only
   exact⟨⟨by omega,by omega⟩,by omega,by omega⟩
  split
  ·have:=scan_bnd (lineOf t p)
   dsimp only
   exact⟨this,by omega,by omega⟩
  split
  ·have:=stC_bnd st (partsV (no:Int) (lineOf t p))
   dsimp only
   exact⟨this,by omega,by omega⟩
  ·have:=cd_bnd t ps (no+1) (stC st (partsV (no:Int) (lineOf t p))).2.1 (out++(stC st (partsV (no:Int) (lineOf t p))).2.2)
   rw[List.length_cons]
   exact⟨this.1,this.2.1,by have:=this.2.2;omega⟩
theorem cases_bnd(t:List UInt8):(0≤(casesV t).1∧(casesV t).1≤1000)∧0≤(casesV t).2.1∧(casesV t).2.1≤(t.length:Int)+2:=by
 have h1:=cd_bnd t (pcsV t) 1 stZ []
 have h2:=pcs_len t (t.length+1) (bomN t) (bom_len t)
 unfold casesV
 unfold pcsV at h1 ⊢
 exact⟨h1.1,h1.2.1,by have:=h1.2.2;omega⟩
end Go.Proofs.YthopfpplnclanaaGreatDoor.Sx
