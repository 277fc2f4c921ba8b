/- 'furrowlaw28.ClasstestAhead': the law returns true, and the input reads as it did. Where the listed package-level variables hold what the program's text lays (the card ties them). -/
import Derived.Test.YthopfpplnclanaaGreatDoorW3
import Derived.Deep.DeepHandedRow
import Derived.LaidHandle
import Derived.LaidLaws
import Derived.Lay
import Derived.Test.YthopfpplnclanaaGreatDoorRows
import Derived.Lib.LaidTab
import Derived.Stop.LaidErr
import Derived.Shelf.Vars
import Derived.Test.YthopfpplnclanaaGreatDoorW19
import Derived.Test.YthopfpplnclanaaGreatDoorTie
import Derived.Test.YthopfpplnclanaaGreatDoorCards
import Derived.Test.YthopfpplnclanaaGreatDoorW0
import Derived.Test.YthopfpplnclanaaGreatDoorW1
import Derived.Test.YthopfpplnclanaaGreatDoorW2
import Derived.Test.YthopfpplnclanaaGreatDoorW4
import Derived.Test.YthopfpplnclanaaGreatDoorW5
import Derived.Test.YthopfpplnclanaaGreatDoorW6
import Derived.Test.YthopfpplnclanaaGreatDoorW7
import Derived.Test.YthopfpplnclanaaGreatDoorW8
import Derived.Test.YthopfpplnclanaaGreatDoorW9
import Derived.Test.YthopfpplnclanaaGreatDoorW10
import Derived.Test.YthopfpplnclanaaGreatDoorW11
import Derived.Test.YthopfpplnclanaaGreatDoorW12
import Derived.Test.YthopfpplnclanaaGreatDoorW13
import Derived.Test.YthopfpplnclanaaGreatDoorW14
import Derived.Test.YthopfpplnclanaaGreatDoorW15
import Derived.Test.YthopfpplnclanaaGreatDoorW16
import Derived.Test.YthopfpplnclanaaGreatDoorW17
import Derived.Test.YthopfpplnclanaaGreatDoorW18
namespace Go.Proofs.YthopfpplnclanaaGreatDoor.Sx
set_option linter.unusedSimpArgs false
set_option linter.unusedVariables false
noncomputable section
open Go.ChangeShapes Go.WideShapes Go.ChangeAt Go.RowKit
end
end Go.Proofs.YthopfpplnclanaaGreatDoor.Sx
namespace Go.Proofs.YthopfpplnclanaaGreatDoor.Sx
set_option linter.unusedSimpArgs false
set_option linter.unusedVariables false
theorem laidMet_layOver{P:Program}{w0:World}{laid:List (String×DataW Unit)}(args:Array Value)(hf:w0.layFits P laid []=true)(hi:w0.layIfaces P laid (w0.layVars P laid)=true):
 laidMet P laid ((w0.layVars P laid).forCall (fun _ _=>0) ⟨#[],args,[]⟩).memory:=by
 have e1:(laid.filter fun x=>(laid.map (·.1)).contains x.1)=laid:=List.filter_eq_self.2 fun x hx=>List.contains_iff_mem.2 (List.mem_map.2 ⟨x,hx,rfl⟩)
 have e2:(laid.filter fun x=>!(laid.map (·.1)).contains x.1)=[]:=List.filter_eq_nil_iff.2 fun x hx=>by rw[List.contains_iff_mem.2 (List.mem_map.2 ⟨x,hx,rfl⟩)];simp
 have h:laidMet P laid (w0.layVars P laid):=laidMet_layVars (w0:=w0) (laid.map (·.1)) [] (by rw[e1]) (by rw[e1];exact hf) (by rw[e1];exact hi) (by rw[e2];exact LaidIn.none)
 exact h.of_heap (by simp[World.memory,World.forCall,Input.heap])
end Go.Proofs.YthopfpplnclanaaGreatDoor.Sx
namespace Go.Proofs.YthopfpplnclanaaGreatDoor.Sx
attribute [local irreducible] OkQ Ok
set_option linter.unusedSimpArgs false
set_option linter.unusedVariables false
open Go.RowKit
def laidL:List (String×DataW Unit):=[("math/bits.deBruijn32tab",Rows.laid_math_bits_deBruijn32tab),("math/bits.deBruijn64tab",Rows.laid_math_bits_deBruijn64tab),("internal/strconv.uint64pow10",Rows.laid_internal_strconv_uint64pow10),("unicode/utf8.acceptRanges",Rows.laid_unicode_utf8_acceptRanges),("unicode/utf8.first",Rows.laid_unicode_utf8_first)]
def laidP:List (String×DataW Unit):=[("math/bits.deBruijn32tab",Rows.laid_math_bits_deBruijn32tab),("math/bits.deBruijn64tab",Rows.laid_math_bits_deBruijn64tab),("internal/strconv.uint64pow10",Rows.laid_internal_strconv_uint64pow10),("unicode/utf8.acceptRanges",Rows.laid_unicode_utf8_acceptRanges),("unicode/utf8.first",Rows.laid_unicode_utf8_first)]
theorem laid_plain{W:World}(h:laidMetH Tryz.prog laidL W):laidMet Tryz.prog laidP W:=h
theorem laid_pow:(Rows.laid_internal_strconv_uint64pow10:DataW Unit)=Lib.tabData .u64 Lib.pow10Tab:=by rfl
theorem laid_gn:Tryz.prog.globalNamed "internal/strconv.uint64pow10" =some 0:=by kernel_rfl
theorem laid_GWpow{W:World}(h:laidMet Tryz.prog laidP W):∃T fz,W.heap[0]? =some (.cells (Lib.pow10Tab.map fun z=>Value.int .u64 z).toArray T fz):=by
 have h1:laidMet Tryz.prog (("internal/strconv.uint64pow10",Rows.laid_internal_strconv_uint64pow10)::[("unicode/utf8.acceptRanges",Rows.laid_unicode_utf8_acceptRanges),("unicode/utf8.first",Rows.laid_unicode_utf8_first)]) W:=h.tail.tail
 rw[laid_pow]at h1
 have ht:=Lib.tabIs_of_head (g:=0) laid_gn (t:=132) (by kernel_rfl) (n:=20) (e:=122) (by kernel_rfl) (by kernel_rfl) (by kernel_rfl) (by kernel_rfl) h1
 unfold Lib.TabIs World.var? at ht
 rw[laid_gn]at ht
 simp only[Option.bind_some]at ht
 split at ht
 ·rename_i cs T fz hh
  cases ht
  exact⟨T,fz,hh⟩
 ·cases ht
theorem laid_GW{W:World}(h0:laidMetH Tryz.prog laidL W):GW W:=
 have hp:=laid_plain h0
 {pow:=laid_GWpow hp}
noncomputable def laidW0(os:Os):World:=World.holding Tryz.prog os ⟨#[],#[],[]⟩
noncomputable def laidWorld(os:Os):World:=(laidW0 os).layVars Tryz.prog laidP
theorem laidWorld_os(os:Os):(laidWorld os).os=os:=World.layVars_os _ _ _
set_option maxRecDepth 100000 in
theorem laidWorld_met(os:Os)(args:Array Value):laidMetH Tryz.prog laidL ((laidWorld os).forCall (fun _ _=>0) ⟨#[],args,[]⟩).memory:=
 laidMetH_of_parts (show laidMet Tryz.prog laidP _ from laidMet_layOver args (by kernel_rfl) (by kernel_rfl)) (by kernel_rfl)
end Go.Proofs.YthopfpplnclanaaGreatDoor.Sx
namespace Go.Proofs.YthopfpplnclanaaGreatDoor.ClasstestAhead
set_option linter.unusedSimpArgs false
set_option linter.unusedVariables false
open Go.ChangeShapes Go.WideShapes Go.ChangeAt Go.RowKit Go.Proofs.YthopfpplnclanaaGreatDoor.Sx
theorem own:ownKnob Tryz.prog.godebug=none:=by kernel_rfl
theorem laidOut:laidOutB Tryz.prog=true:=by kernel_rfl
set_option maxRecDepth 100000 in
theorem lifted(os:Os)(started:os.Started)(H:Type)(enc:TypeId×Value→H):
 ReturnsInHanded {} Tryz.checked os 3 .any (fun w args=>(Rows.classtestAheadSpec.pre enc Tryz.prog Tryz.f3 [] false w args∧laidMetH Tryz.prog laidL w)∧sizedMet enc Tryz.prog Tryz.f3 (OpenSpec.ofChange Rows.classtestAheadSpec) false w args)
  (Rows.classtestAheadSpec.post enc Tryz.prog Tryz.f3 false true false false):=
 law_liftedX (C:=Tryz.checked) (pl:=[(false,.str),(false,.str)]) (tb:=4) (X:=fun w _=>laidMetH Tryz.prog laidL w) (fun _ _ _ hh h=>h.of_heap hh) (fun _ _ h=>laid_GW h) lawClasstestAhead_ok laidOut rfl (fun ds h=>match ds,h with|[_,_],_=>rfl)
  ⟨⟨by kernel_rfl,by kernel_rfl,by kernel_rfl,by kernel_rfl,by kernel_rfl⟩,⟨by kernel_rfl,by kernel_rfl,by kernel_rfl,by kernel_rfl,by kernel_rfl⟩,trivial⟩ (by kernel_rfl) (by kernel_rfl) own started (by kernel_rfl) Tryz.func3
  (ChangeSpec.witness_at (enc:=enc) (C:=Tryz.checked) (os:=os) (X:=fun w _=>laidMetH Tryz.prog laidL w) false (laidWorld os) #[.string ⟨#[]⟩,.string ⟨#[]⟩] 8 (laidWorld_os os) (by kernel_rfl) (by kernel_rfl) (by kernel_rfl) (by kernel_rfl) (by kernel_rfl) (laidWorld_met os _))
theorem rowHolds:Rows.ClasstestAheadSaid:=
 OpenClaim.holds_of_wide 3 Tryz.f3 rfl rfl rfl rfl rfl rfl rfl ⟨rfl,rfl,rfl,rfl,rfl⟩ rfl rfl rfl rfl rfl (by kernel_rfl) Tryz.func3 (by kernel_rfl)
  (of_decide_eq_true (by kernel_rfl)) (by unfold Func.isWrapper;first|(rw[if_pos (by decide+kernel)];kernel_rfl)|(rw[if_neg (by decide+kernel)];exact⟨rfl,rfl⟩))
  (fun os started H enc _=>lifted os started H enc)
theorem proved:Rows.ClasstestAheadCardSaid:=
 Claim7.holds_tied_plain_at .later [] [.data,.data,.data,.data,.pinned] true (true,Rows.classtestAheadCard.stood.harness.2) false
  rowHolds (fun _ h=>by cases h) (by kernel_rfl) (fun _ h=>by cases h) classtestAhead_row_tie rfl ⟨rfl,rfl⟩ (by kernel_rfl) rfl
  (fun f fn hf hfn=>by
    obtain rfl:f=3:=Option.some.inj ((show Tryz.prog.funcNamed "furrow/furrowlaw28.ClasstestAhead" =some 3 by kernel_rfl).symm.trans hf) |>.symm
    obtain rfl:fn=Tryz.f3:=(Option.some.inj (Tryz.func3.symm.trans hfn)).symm
    exact⟨by kernel_rfl,fun j t ht=>by
     have key:∀t∈Tryz.f3.params.toList,Tryz.prog.wantsStandIn t=false:=by decide+kernel
     exact key t (List.mem_of_getElem? (by simpa using ht))⟩)
  (by kernel_rfl)
#print axioms proved
end Go.Proofs.YthopfpplnclanaaGreatDoor.ClasstestAhead
