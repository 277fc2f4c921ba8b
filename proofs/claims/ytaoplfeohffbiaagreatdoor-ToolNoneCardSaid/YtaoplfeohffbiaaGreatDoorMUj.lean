/- A part of the proof. -/
import Derived.Test.YtaoplfeohffbiaaGreatDoorRows
import Derived.Test.YtaoplfeohffbiaaGreatDoorCards
import Derived.Test.YtaoplfeohffbiaaGreatDoorMP
import Derived.KernelRfl

/-! Closed facts of the cards. -/
namespace Go.Proofs.YtaoplfeohffbiaaGreatDoor.Card
set_option linter.unusedSimpArgs false
set_option linter.unusedVariables false
set_option linter.unusedSectionVars false
open Go.ChangeShapes Go.WideShapes Go.ChangeAt Go.RowKit Go.Proofs.YtaoplfeohffbiaaGreatDoor.Sx
set_option maxRecDepth 100000

theorem noGo : Tryz.prog.funcs.toList.any Func.goes = false := by kernel_rfl
theorem goes_no {P : Program} (h : P.funcs.toList.any Func.goes = false) (f : FuncId) : P.goes f = false := by
  have hf : ∀ g : FuncId, (P.funcs[g]?).any Func.goes = false := fun g => by
    cases hg : P.funcs[g]? with
    | none => rfl
    | some fn =>
      have hm : fn ∈ P.funcs.toList := Array.mem_toList_iff.2 (Array.mem_of_getElem? hg)
      have := List.any_eq_false.1 h fn hm
      simpa using this
  unfold Program.goes
  have h1 : ((P.closure f).any fun g => (P.funcs[g]?).any Func.goes) = false := List.any_eq_false.2 fun g _ => by rw [hf g]; exact Bool.false_ne_true
  have h2 : P.funcs.any Func.goes = false := by rw [← Array.any_toList]; exact h
  rw [h1, h2, Bool.and_false]
  rfl
theorem goesBy_no {P : Program} {c : OpenClaim} {f : FuncId} (hs : c.start = .entering) (hn : P.funcNamed c.func = some f) (h : P.funcs.toList.any Func.goes = false) : false = c.goesBy P := by
  unfold OpenClaim.goesBy Program.goesAt Program.goesFrom
  rw [hs, hn, Option.any_some, goes_no h f]
  rfl

end Go.Proofs.YtaoplfeohffbiaaGreatDoor.Card
