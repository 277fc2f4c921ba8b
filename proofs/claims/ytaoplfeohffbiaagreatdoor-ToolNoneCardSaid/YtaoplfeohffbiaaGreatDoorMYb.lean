/- 'furrowlaw31.ToolNone': the law returns true, and the input reads as it did. Where the listed package-level variables hold what the program's text lays (the card ties them). -/
import Derived.Test.YtaoplfeohffbiaaGreatDoorRows
import Derived.Test.YtaoplfeohffbiaaGreatDoorCards
import Derived.Test.YtaoplfeohffbiaaGreatDoorMP
import Derived.KernelRfl
import Derived.Test.YtaoplfeohffbiaaGreatDoorMWb3
import Derived.Test.YtaoplfeohffbiaaGreatDoorMWb1
import Derived.Test.YtaoplfeohffbiaaGreatDoorMWb2
import Derived.Test.YtaoplfeohffbiaaGreatDoorMR
import Derived.Test.YtaoplfeohffbiaaGreatDoorMUk
import Derived.Test.YtaoplfeohffbiaaGreatDoorMVbE
import Derived.Test.YtaoplfeohffbiaaGreatDoorMVbG
import Derived.Test.YtaoplfeohffbiaaGreatDoorMQ
import Derived.Test.YtaoplfeohffbiaaGreatDoorMUj
import Derived.Test.YtaoplfeohffbiaaGreatDoorMVb1
import Derived.Test.YtaoplfeohffbiaaGreatDoorMX

/-! Closed facts of the cards. -/
namespace Go.Proofs.YtaoplfeohffbiaaGreatDoor.ToolNone
set_option linter.unusedSimpArgs false
set_option linter.unusedVariables false
set_option linter.unusedSectionVars false
open Go.ChangeShapes Go.WideShapes Go.ChangeAt Go.RowKit Go.Proofs.YtaoplfeohffbiaaGreatDoor.Sx
set_option maxRecDepth 100000

theorem j1 : (Rows.toolNoneRow.wf (OpenSpec.ofChange Rows.toolNoneSpec)) = true := by kernel_rfl
theorem j4 : (Tryz.f3.params.all (Tryz.pinned.checked.prog.readableRec ·)) = true := by kernel_rfl
theorem j5 : (namedTie Tryz.pinned.checked.prog Rows.toolNoneRow.named Rows.toolNoneSpec.vars) = true := by kernel_rfl
theorem j6 : ((Rows.toolNoneRow.stops == [])) = true := by kernel_rfl
theorem j7 : ((Tryz.pinned.checked.prog.stops == [])) = true := by kernel_rfl
theorem j8 : ((Rows.toolNoneRow.knobs == [])) = true := by kernel_rfl
theorem j9 : ((Tryz.pinned.checked.prog.stopKnobs == [])) = true := by kernel_rfl

end Go.Proofs.YtaoplfeohffbiaaGreatDoor.ToolNone

/-! Closed facts of the cards. -/
namespace Go.Proofs.YtaoplfeohffbiaaGreatDoor.ToolNone
set_option linter.unusedSimpArgs false
set_option linter.unusedVariables false
set_option linter.unusedSectionVars false
open Go.ChangeShapes Go.WideShapes Go.ChangeAt Go.RowKit Go.Proofs.YtaoplfeohffbiaaGreatDoor.Sx
set_option maxRecDepth 100000

theorem j14 : ((Rows.toolNoneRow.maps == (Tryz.f3.params.toList ++ Rows.toolNoneSpec.plain.varTypes Tryz.pinned.checked.prog).any (Tryz.pinned.checked.prog.mapsRec ·))) = true := by kernel_rfl
theorem j15 : ((Rows.toolNoneRow.ifaces == (Tryz.f3.params.toList ++ Rows.toolNoneSpec.plain.varTypes Tryz.pinned.checked.prog).any (Tryz.pinned.checked.prog.ifacesRec ·))) = true := by kernel_rfl
theorem j16 : ((Rows.toolNoneRow.mapsOut == Tryz.pinned.checked.prog.mapsAmong Tryz.f3.resultTypes.toList)) = true := by kernel_rfl
theorem j17 : ((Rows.toolNoneRow.loops == (Tryz.f3.params.toList ++ Rows.toolNoneSpec.plain.varTypes Tryz.pinned.checked.prog).any (Tryz.pinned.checked.prog.loopsFrom ·))) = true := by kernel_rfl
theorem j18 : ((Rows.toolNoneRow.wideKeys == (Tryz.f3.params.toList ++ Rows.toolNoneSpec.plain.varTypes Tryz.pinned.checked.prog ++ Tryz.f3.resultTypes.toList).any (Tryz.pinned.checked.prog.wideKeysFrom ·))) = true := by kernel_rfl
theorem j19 : (Rows.toolNoneSpec.vars.all (Tryz.pinned.checked.prog.varReadable ·)) = true := by kernel_rfl
theorem j20 : (Tryz.f3.resultTypes.all (fun t => Tryz.pinned.checked.prog.readableRec t && decide (t < Tryz.pinned.checked.prog.types.size))) = true := by kernel_rfl
theorem j21 : ((Rows.toolNoneRow.ifacesOut == Tryz.f3.resultTypes.toList.any (Tryz.pinned.checked.prog.ifacesRec ·))) = true := by kernel_rfl
theorem j22 : ((Rows.toolNoneRow.loopsOut == Tryz.f3.resultTypes.toList.any (Tryz.pinned.checked.prog.loopsFrom ·))) = true := by kernel_rfl

end Go.Proofs.YtaoplfeohffbiaaGreatDoor.ToolNone

/-! Closed facts of the cards. -/
namespace Go.Proofs.YtaoplfeohffbiaaGreatDoor.ToolNone
set_option linter.unusedSimpArgs false
set_option linter.unusedVariables false
set_option linter.unusedSectionVars false
open Go.ChangeShapes Go.WideShapes Go.ChangeAt Go.RowKit Go.Proofs.YtaoplfeohffbiaaGreatDoor.Sx
set_option maxRecDepth 100000

theorem j27 : ((Rows.toolNoneRow.lifted == Tryz.pinned.checked.prog.liftsFinal)) = true := by kernel_rfl
theorem j28 : ((Tryz.pinned.checked.prog.make == some Rows.toolNoneRow.make)) = true := by kernel_rfl
theorem j29 : (Rows.toolNoneRow.domain.isEmpty) = true := by kernel_rfl
theorem j30 : ((Rows.toolNoneRow.kinds == [])) = true := by kernel_rfl
theorem j31 : ((Rows.toolNoneRow.pinned == Rows.toolNoneRow.pinnedBy)) = true := by kernel_rfl
theorem j32 : ((Rows.toolNoneRow.veiled == (Tryz.f3.params.toList ++ Rows.toolNoneSpec.plain.varTypes Tryz.pinned.checked.prog ++ Tryz.f3.resultTypes.toList).any (Tryz.pinned.checked.prog.veiledRec ·))) = true := by kernel_rfl
theorem j33 : (Rows.toolNoneRow.veiledFits Tryz.pinned.checked.prog Tryz.f3.params.toList (Tryz.f3.params.toList ++ Rows.toolNoneSpec.plain.varTypes Tryz.pinned.checked.prog ++ Tryz.f3.resultTypes.toList)) = true := by kernel_rfl

end Go.Proofs.YtaoplfeohffbiaaGreatDoor.ToolNone

/-! Closed facts of the cards. -/
namespace Go.Proofs.YtaoplfeohffbiaaGreatDoor.ToolNone
set_option linter.unusedSimpArgs false
set_option linter.unusedVariables false
set_option linter.unusedSectionVars false
open Go.ChangeShapes Go.WideShapes Go.ChangeAt Go.RowKit Go.Proofs.YtaoplfeohffbiaaGreatDoor.Sx
set_option maxRecDepth 100000

theorem unf : Tryz.prog.unfollowed 3 = true := by
  unfold Program.unfollowed
  rw [clo, List.any_append]
  have h : C1.any (fun g => (Tryz.prog.funcs[g]?).any fun fn => match fn.body with | some c => c.unfollowed | none => entryCalls fn) = true := by kernel_rfl
  rw [Bool.or_eq_true]
  exact .inl h
theorem j11 : (Rows.toolNoneRow.unfollowed == Tryz.pinned.checked.prog.unfollowed 3) = true := by
  show (Rows.toolNoneRow.unfollowed == Tryz.prog.unfollowed 3) = true
  rw [unf]
  rfl
theorem j12 : (Rows.toolNoneRow.recurses == Tryz.pinned.checked.prog.recurses 3) = true := by
  show (Rows.toolNoneRow.recurses == Tryz.prog.recurses 3) = true
  unfold Program.recurses
  rw [unf, Bool.true_or]
  rfl

end Go.Proofs.YtaoplfeohffbiaaGreatDoor.ToolNone

/-! Closed facts of the cards. -/
namespace Go.Proofs.YtaoplfeohffbiaaGreatDoor.ToolNone
set_option linter.unusedSimpArgs false
set_option linter.unusedVariables false
set_option linter.unusedSectionVars false
open Go.ChangeShapes Go.WideShapes Go.ChangeAt Go.RowKit Go.Proofs.YtaoplfeohffbiaaGreatDoor.Sx
set_option maxRecDepth 100000

theorem ipEq : Tryz.prog.inPlace 3 = Rows.toolNoneRow.inPlace := by
  unfold Program.inPlace
  rw [clo, List.filterMap_append, eq_of_beq ip1, eq_of_beq ip2, List.take_append_drop]
theorem j10 : (Rows.toolNoneRow.inPlace == Tryz.pinned.checked.prog.inPlace 3) = true := by
  show (Rows.toolNoneRow.inPlace == Tryz.prog.inPlace 3) = true
  rw [ipEq]
  exact beq_self_eq_true _

end Go.Proofs.YtaoplfeohffbiaaGreatDoor.ToolNone

/-! Closed facts of the cards. -/
namespace Go.Proofs.YtaoplfeohffbiaaGreatDoor.ToolNone
set_option linter.unusedSimpArgs false
set_option linter.unusedVariables false
set_option linter.unusedSectionVars false
open Go.ChangeShapes Go.WideShapes Go.ChangeAt Go.RowKit Go.Proofs.YtaoplfeohffbiaaGreatDoor.Sx
set_option maxRecDepth 100000

theorem joined : joinedFacts Tryz.pinned.checked.prog 3 Tryz.f3 Rows.toolNoneSpec Rows.toolNoneRow = true := Card.joined_of j1 Card.laidOut Card.jMaps j4 j5 j6 j7 j8 j9 j10 j11 j12 j13 j14 j15 j16 j17 j18 j19 j20 j21 j22 j23 j24 j25 j26 j27 j28 j29 j30 j31 j32 j33

end Go.Proofs.YtaoplfeohffbiaaGreatDoor.ToolNone

/-! Closed facts of the cards. -/
namespace Go.Proofs.YtaoplfeohffbiaaGreatDoor.ToolNone
set_option linter.unusedSimpArgs false
set_option linter.unusedVariables false
set_option linter.unusedSectionVars false
open Go.ChangeShapes Go.WideShapes Go.ChangeAt Go.RowKit Go.Proofs.YtaoplfeohffbiaaGreatDoor.Sx
set_option maxRecDepth 100000

theorem isInst : decide (Func.isInstance Tryz.pinned.checked.prog Tryz.f3 Rows.toolNoneRow.origin Rows.toolNoneRow.targs) = true := by kernel_rfl
theorem notMain : ¬ (Check.packageOf Tryz.f3.name = "main") := by decide +kernel

end Go.Proofs.YtaoplfeohffbiaaGreatDoor.ToolNone

/-! Closed facts of the cards. -/
namespace Go.Proofs.YtaoplfeohffbiaaGreatDoor.ToolNone
set_option linter.unusedSimpArgs false
set_option linter.unusedVariables false
set_option linter.unusedSectionVars false
open Go.ChangeShapes Go.WideShapes Go.ChangeAt Go.RowKit Go.Proofs.YtaoplfeohffbiaaGreatDoor.Sx
set_option maxRecDepth 100000

theorem wf : OpenClaim.wfByText (OpenSpec.ofChange Rows.toolNoneSpec) Rows.toolNoneRow = true := by kernel_rfl

end Go.Proofs.YtaoplfeohffbiaaGreatDoor.ToolNone

/-! Closed facts of the cards. -/
namespace Go.Proofs.YtaoplfeohffbiaaGreatDoor.ToolNone
set_option linter.unusedSimpArgs false
set_option linter.unusedVariables false
set_option linter.unusedSectionVars false
open Go.ChangeShapes Go.WideShapes Go.ChangeAt Go.RowKit Go.Proofs.YtaoplfeohffbiaaGreatDoor.Sx
set_option maxRecDepth 100000

theorem mainIs : Tryz.pinned.checked.prog.mainIs = some ((true, Rows.toolNoneCard.stood.harness.snd).fst, (true, Rows.toolNoneCard.stood.harness.snd).snd.toList) := by kernel_rfl

end Go.Proofs.YtaoplfeohffbiaaGreatDoor.ToolNone

/-! Closed facts of the cards. -/
namespace Go.Proofs.YtaoplfeohffbiaaGreatDoor.ToolNone
set_option linter.unusedSimpArgs false
set_option linter.unusedVariables false
set_option linter.unusedSectionVars false
open Go.ChangeShapes Go.WideShapes Go.ChangeAt Go.RowKit Go.Proofs.YtaoplfeohffbiaaGreatDoor.Sx
set_option maxRecDepth 100000

theorem fits (os : Os) : Input.okWideB Tryz.checked.prog ((laidWorld os).forCall (fun _ _ => 0) ⟨#[], #[.string ⟨#[]⟩], []⟩) 3 ⟨#[], #[.string ⟨#[]⟩], []⟩ = true := by kernel_rfl

end Go.Proofs.YtaoplfeohffbiaaGreatDoor.ToolNone

/-! Closed facts of the cards. -/
namespace Go.Proofs.YtaoplfeohffbiaaGreatDoor.ToolNone
set_option linter.unusedSimpArgs false
set_option linter.unusedVariables false
set_option linter.unusedSectionVars false
open Go.ChangeShapes Go.WideShapes Go.ChangeAt Go.RowKit Go.Proofs.YtaoplfeohffbiaaGreatDoor.Sx
set_option maxRecDepth 100000

theorem preOk {H : Type} (enc : TypeId × Value → H) (os : Os) : ChangeSpec.preB enc Tryz.checked.prog Tryz.f3 Rows.toolNoneSpec [] false ((laidWorld os).forCall (fun _ _ => 0) ⟨#[], #[.string ⟨#[]⟩], []⟩).memory #[.string ⟨#[]⟩] 8 = true := by kernel_rfl

end Go.Proofs.YtaoplfeohffbiaaGreatDoor.ToolNone

/-! Closed facts of the cards. -/
namespace Go.Proofs.YtaoplfeohffbiaaGreatDoor.ToolNone
set_option linter.unusedSimpArgs false
set_option linter.unusedVariables false
set_option linter.unusedSectionVars false
open Go.ChangeShapes Go.WideShapes Go.ChangeAt Go.RowKit Go.Proofs.YtaoplfeohffbiaaGreatDoor.Sx
set_option maxRecDepth 100000

theorem sizeOk {H : Type} (enc : TypeId × Value → H) (os : Os) : ChangeSpec.sizedB enc Tryz.checked.prog Tryz.f3 Rows.toolNoneSpec false ((laidWorld os).forCall (fun _ _ => 0) ⟨#[], #[.string ⟨#[]⟩], []⟩).memory #[.string ⟨#[]⟩] 8 = true := by kernel_rfl

end Go.Proofs.YtaoplfeohffbiaaGreatDoor.ToolNone

/-! Closed facts of the cards. -/
namespace Go.Proofs.YtaoplfeohffbiaaGreatDoor.ToolNone
set_option linter.unusedSimpArgs false
set_option linter.unusedVariables false
set_option linter.unusedSectionVars false
open Go.ChangeShapes Go.WideShapes Go.ChangeAt Go.RowKit Go.Proofs.YtaoplfeohffbiaaGreatDoor.Sx
set_option maxRecDepth 100000

attribute [local irreducible] Program.funcNamed Program.goes OpenClaim.goesBy
theorem goesNot : false = Rows.toolNoneRow.goesBy Tryz.pinned.checked.prog := @Card.goesBy_no Tryz.prog Rows.toolNoneRow 3 rfl named Card.noGo

end Go.Proofs.YtaoplfeohffbiaaGreatDoor.ToolNone

/-! 'furrowlaw31.ToolNone': the law returns true, and the input reads as it did. Where the listed package-level variables hold what the program's text lays (the card ties them). -/
namespace Go.Proofs.YtaoplfeohffbiaaGreatDoor.ToolNone
set_option linter.unusedSimpArgs false
set_option linter.unusedVariables false
set_option linter.unusedSectionVars false
open Go.ChangeShapes Go.WideShapes Go.ChangeAt Go.RowKit Go.Proofs.YtaoplfeohffbiaaGreatDoor.Sx


set_option maxRecDepth 100000 in
theorem lifted (os : Os) (started : os.Started) (H : Type) (enc : TypeId × Value → H) :
    ReturnsInHanded {} Tryz.checked os 3 .any (fun w args => (Rows.toolNoneSpec.pre enc Tryz.prog Tryz.f3 [] false w args ∧ laidMetH Tryz.prog laidL w) ∧ sizedMet enc Tryz.prog Tryz.f3 (OpenSpec.ofChange Rows.toolNoneSpec) false w args)
      (Rows.toolNoneSpec.post enc Tryz.prog Tryz.f3 false true false false) :=
  law_liftedX (C := Tryz.checked) (pl := [(false, .str)]) (tb := 4) (X := fun w _ => laidMetH Tryz.prog laidL w) (fun _ _ _ hh h => h.of_heap hh) (fun _ _ h => laid_GW h) lawToolNone_ok Card.laidOut rfl (fun ds h => match ds, h with | [_], _ => rfl)
    ⟨⟨by kernel_rfl, by kernel_rfl, by kernel_rfl, by kernel_rfl, by kernel_rfl⟩, trivial⟩ (by kernel_rfl) (Card.tyBool) Card.own started (by kernel_rfl) Tryz.func3
    (ChangeSpec.witness_at (enc := enc) (C := Tryz.checked) (os := os) (X := fun w _ => laidMetH Tryz.prog laidL w) false (laidWorld os) #[.string ⟨#[]⟩] 8 (laidWorld_os os) (Card.varsFit os _) (Card.heapRest os _) (fits os) (preOk enc os) (sizeOk enc os) (laidWorld_met os _))

theorem rowHolds : Rows.ToolNoneSaid :=
  OpenClaim.holds_of_wide 3 Tryz.f3 rfl rfl rfl rfl rfl rfl rfl ⟨rfl, rfl, rfl, rfl, rfl⟩ rfl rfl rfl rfl rfl (named) Tryz.func3 (joined)
    (of_decide_eq_true (isInst)) (by unfold Func.isWrapper; rw [if_neg notMain]; exact ⟨rfl, rfl⟩)
    (fun os started H enc _ => lifted os started H enc)

theorem proved : Rows.ToolNoneCardSaid :=
  Claim7.holds_tied_plain_at .later [] [.pinned, .data, .data, .data, .data, .sentinel, .sentinel, .handle] true (true, Rows.toolNoneCard.stood.harness.2) true
    rowHolds (fun _ h => by cases h) (wf) (fun _ h => by cases h) Tied.toolNone_row_tie rfl ⟨rfl, rfl⟩ (mainIs) rfl
    (fun f fn hf hfn => by
      obtain rfl : f = 3 := Option.some.inj ((show Tryz.prog.funcNamed "furrow/furrowlaw31.ToolNone" = some 3 from named).symm.trans hf) |>.symm
      obtain rfl : fn = Tryz.f3 := (Option.some.inj (Tryz.func3.symm.trans hfn)).symm
      exact ⟨Card.looksNone, fun j t ht => by
        have key : ∀ t ∈ Tryz.f3.params.toList, Tryz.prog.wantsStandIn t = false := by decide +kernel
        exact key t (List.mem_of_getElem? (by simpa using ht))⟩)
    (goesNot)

#print axioms proved
end Go.Proofs.YtaoplfeohffbiaaGreatDoor.ToolNone
