/- 'furrowlaw28.ClasstestBack': the law returns true, and the input reads as it did. Where the listed package-level variables hold what the program's text lays (the card ties them). -/
import Derived.Test.YtnalbhjkooglhaaDoorW5
import Derived.Test.YtnalbhjkooglhaaDoorTie
import Derived.Test.YtnalbhjkooglhaaDoorCards
import Derived.Test.YtnalbhjkooglhaaDoorW0
import Derived.Test.YtnalbhjkooglhaaDoorW1
import Derived.Test.YtnalbhjkooglhaaDoorW2
import Derived.Test.YtnalbhjkooglhaaDoorW3
import Derived.Test.YtnalbhjkooglhaaDoorW4
namespace Go.Proofs.YtnalbhjkooglhaaDoor.ClasstestBack
set_option linter.unusedSimpArgs false
set_option linter.unusedVariables false
open Go.ChangeShapes Go.WideShapes Go.ChangeAt Go.RowKit Go.Proofs.YtnalbhjkooglhaaDoor.Sx
theorem own:ownKnob Tryd.prog.godebug=none:=by kernel_rfl
theorem laidOut:laidOutB Tryd.prog=true:=by kernel_rfl
set_option maxRecDepth 100000 in
theorem lifted(os:Os)(started:os.Started)(H:Type)(enc:TypeId×Value→H):
 ReturnsInHanded {} Tryd.checked os 3 .any (fun w args=>(Rows.classtestBackSpec.pre enc Tryd.prog Tryd.f3 [] false w args∧laidMetH Tryd.prog laidL w)∧sizedMet enc Tryd.prog Tryd.f3 (OpenSpec.ofChange Rows.classtestBackSpec) false w args)
  (Rows.classtestBackSpec.post enc Tryd.prog Tryd.f3 false true false false):=
 law_liftedX (C:=Tryd.checked) (pl:=[(false,tCs),(false,.str)]) (tb:=4) (X:=fun w _=>laidMetH Tryd.prog laidL w) (fun _ _ _ hh h=>h.of_heap hh) (fun _ _ h=>laid_GW h) lawClasstestBack_ok laidOut rfl (fun ds h=>match ds,h with|[_,_],_=>rfl)
  ⟨⟨by kernel_rfl,by kernel_rfl,by kernel_rfl,by kernel_rfl,by kernel_rfl⟩,⟨by kernel_rfl,by kernel_rfl,by kernel_rfl,by kernel_rfl,by kernel_rfl⟩,trivial⟩ (by kernel_rfl) (by kernel_rfl) own started (by kernel_rfl) Tryd.func3
  (ChangeSpec.witness_at (enc:=enc) (C:=Tryd.checked) (os:=os) (X:=fun w _=>laidMetH Tryd.prog laidL w) false (laidWorld os) #[.slice none 0 0,.string ⟨#[]⟩] 8 (laidWorld_os os) (by kernel_rfl) (by kernel_rfl) (by kernel_rfl) (by kernel_rfl) (by kernel_rfl) (laidWorld_met os _))
theorem rowHolds:Rows.ClasstestBackSaid:=
 OpenClaim.holds_of_wide 3 Tryd.f3 rfl rfl rfl rfl rfl rfl rfl ⟨rfl,rfl,rfl,rfl,rfl⟩ rfl rfl rfl rfl rfl (by kernel_rfl) Tryd.func3 (by kernel_rfl)
  (of_decide_eq_true (by kernel_rfl)) (by unfold Func.isWrapper;first|(rw[if_pos (by decide+kernel)];kernel_rfl)|(rw[if_neg (by decide+kernel)];exact⟨rfl,rfl⟩))
  (fun os started H enc _=>lifted os started H enc)
theorem proved:Rows.ClasstestBackCardSaid:=
 Claim7.holds_tied_plain_at .later [] [.data,.data,.data,.data,.pinned] true (true,Rows.classtestBackCard.stood.harness.2) false
  rowHolds (fun _ h=>by cases h) (by kernel_rfl) (fun _ h=>by cases h) classtestBack_row_tie rfl ⟨rfl,rfl⟩ (by kernel_rfl) rfl
  (fun f fn hf hfn=>by
    obtain rfl:f=3:=Option.some.inj ((show Tryd.prog.funcNamed "furrow/furrowlaw28.ClasstestBack" =some 3 by kernel_rfl).symm.trans hf) |>.symm
    obtain rfl:fn=Tryd.f3:=(Option.some.inj (Tryd.func3.symm.trans hfn)).symm
    exact⟨by kernel_rfl,fun j t ht=>by
     have key:∀t∈Tryd.f3.params.toList,Tryd.prog.wantsStandIn t=false:=by decide+kernel
     exact key t (List.mem_of_getElem? (by simpa using ht))⟩)
  (by kernel_rfl)
#print axioms proved
end Go.Proofs.YtnalbhjkooglhaaDoor.ClasstestBack
