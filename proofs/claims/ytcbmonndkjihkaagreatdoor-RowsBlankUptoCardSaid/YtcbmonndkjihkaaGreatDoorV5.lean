/- 'furrowlaw06.RowsBlank': the law returns true, and the input reads as it did. Where what comes holds at most 1048576 values and letters, and the listed package-level variables hold what the program's text lays (the card ties them). -/
import Derived.Test.YtcbmonndkjihkaaGreatDoorV4
import Derived.Test.YtcbmonndkjihkaaGreatDoorTie
import Derived.Test.YtcbmonndkjihkaaGreatDoorCards
import Derived.Test.YtcbmonndkjihkaaGreatDoorV0
import Derived.Test.YtcbmonndkjihkaaGreatDoorV1
import Derived.Test.YtcbmonndkjihkaaGreatDoorV2
import Derived.Test.YtcbmonndkjihkaaGreatDoorV3
namespace Go.Proofs.YtcbmonndkjihkaaGreatDoor.RowsBlank
set_option linter.unusedSimpArgs false
set_option linter.unusedVariables false
open Go.ChangeShapes Go.WideShapes Go.ChangeAt Go.RowKit Go.Proofs.YtcbmonndkjihkaaGreatDoor.Sx
theorem own:ownKnob Tryz.prog.godebug=none:=by kernel_rfl
theorem laidOut:laidOutB Tryz.prog=true:=by kernel_rfl
theorem reads(os:Os){H:Type}(enc:TypeId×Value→H):∃places,DataW.whole enc Tryz.prog ((laidWorld os).forCall (fun _ _=>0) ⟨#[],#[.string ⟨#[]⟩,.string ⟨#[]⟩,.string ⟨#[]⟩],[]⟩).memory Tryz.f5.params.toList Rows.rowsBlankSpec.vars false #[.string ⟨#[]⟩,.string ⟨#[]⟩,.string ⟨#[]⟩].toList 8=some ([.lit (.string []),.lit (.string []),.lit (.string [])],[],places):=
 ⟨[],by kernel_rfl⟩
set_option maxRecDepth 100000 in
theorem lifted(os:Os)(started:os.Started)(H:Type)(enc:TypeId×Value→H)(F:Stop.Interp):
 ReturnsInHanded {} Tryz.checked os 5 .any ((Rows.OpenSpec.upto Rows.rowsBlankSpec).preRow enc Tryz.prog Tryz.f5 Rows.rowsBlankUptoRow.domain false Rows.rowsBlankUptoRow.laid) (((Rows.OpenSpec.upto Rows.rowsBlankSpec).at F).post enc Tryz.prog Tryz.f5 false true false false):=by
 obtain⟨places,hx⟩:=reads os enc
 exact law_liftedUX (C:=Tryz.checked) (pl:=[(false,.str),(false,.str),(false,.str)]) (tb:=4) (laid:=Rows.rowsBlankUptoRow.laid) (fun _ h hs=>laid_GW h hs) lawRowsBlank_ok laidOut rfl (fun ds h=>match ds,h with|[_,_,_],_=>rfl)
  ⟨⟨by kernel_rfl,by kernel_rfl,by kernel_rfl,by kernel_rfl,by kernel_rfl⟩,⟨by kernel_rfl,by kernel_rfl,by kernel_rfl,by kernel_rfl,by kernel_rfl⟩,⟨by kernel_rfl,by kernel_rfl,by kernel_rfl,by kernel_rfl,by kernel_rfl⟩,trivial⟩ (by kernel_rfl) (by kernel_rfl) own started (by kernel_rfl) Tryz.func5 rfl
  (witness_row_at (enc:=enc) (C:=Tryz.checked) false (laidWorld os) #[.string ⟨#[]⟩,.string ⟨#[]⟩,.string ⟨#[]⟩] (laidWorld_os os) (by kernel_rfl) (by kernel_rfl) (by kernel_rfl)
    (OpenSpec.preRow_of_cond 8 hx (by kernel_rfl) (fun k hk=>by cases hk;kernel_rfl) (by kernel_rfl) (laidWorld_met os _)))
theorem rowHolds:Rows.RowsBlankUptoSaid:=
 OpenClaim.holds_of_cond 5 Tryz.f5 rfl rfl rfl rfl rfl rfl rfl ⟨rfl,rfl,rfl,rfl,rfl⟩ rfl rfl rfl rfl rfl (by kernel_rfl) Tryz.func5 (by kernel_rfl)
  (of_decide_eq_true (by kernel_rfl)) (by unfold Func.isWrapper;first|(rw[if_pos (by decide+kernel)];kernel_rfl)|(rw[if_neg (by decide+kernel)];exact⟨rfl,rfl⟩))
  (fun os started H enc _ F=>by rw[OpenClaim.pre_eq_preRow];exact lifted os started H enc F)
theorem proved:Rows.RowsBlankUptoCardSaid:=
 Claim7.holds_tied_plain_at .later [] [.data,.data,.data,.data,.handle,.sentinel,.sentinel,.pinned] true (true,Rows.rowsBlankUptoCard.stood.harness.2) true
  rowHolds (fun _ h=>by cases h) (by kernel_rfl) (fun _ h=>by cases h) rowsBlankUpto_row_tie rfl ⟨rfl,rfl⟩ (by kernel_rfl) rfl
  (fun f fn hf hfn=>by
    obtain rfl:f=5:=Option.some.inj ((show Tryz.prog.funcNamed "furrow/furrowlaw06.RowsBlank" =some 5 by kernel_rfl).symm.trans hf) |>.symm
    obtain rfl:fn=Tryz.f5:=(Option.some.inj (Tryz.func5.symm.trans hfn)).symm
    exact⟨by kernel_rfl,fun j t ht=>by
     have key:∀t∈Tryz.f5.params.toList,Tryz.prog.wantsStandIn t=false:=by decide+kernel
     exact key t (List.mem_of_getElem? (by simpa using ht))⟩)
  (by kernel_rfl)
#print axioms proved
end Go.Proofs.YtcbmonndkjihkaaGreatDoor.RowsBlank
