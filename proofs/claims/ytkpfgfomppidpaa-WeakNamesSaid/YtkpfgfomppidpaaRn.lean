/- 'furrowlaw18.WeakNames': the law returns true, and the input reads as it did. No condition. -/
import Derived.Test.YtkpfgfomppidpaaWg
import Derived.Test.YtkpfgfomppidpaaSx28
namespace Go.Proofs.Ytkpfgfomppidpaa.WeakNames
set_option linter.unusedSimpArgs false
set_option linter.unusedVariables false
open Go.ChangeShapes Go.WideShapes Go.ChangeAt Go.RowKit Go.Proofs.Ytkpfgfomppidpaa.Sx

theorem own : ownKnob Try.prog.godebug = none := by kernel_rfl
theorem laidOut : laidOutB Try.prog = true := by kernel_rfl

theorem lifted (os : Os) (started : os.Started) (H : Type) (enc : TypeId × Value → H) :
    ReturnsInHanded {} Try.checked os 9 .any (Rows.weakNamesSpec.pre6 enc Try.prog Try.f9 Rows.weakNamesRow.domain false) (Rows.weakNamesSpec.post enc Try.prog Try.f9 false true false false) :=
  law_lifted (C := Try.checked) (pl := []) (tb := 4) lawWeakNames_ok laidOut rfl (fun ds h => match ds, h with | [], _ => rfl)
    trivial
    (by kernel_rfl) (by kernel_rfl) own started (by kernel_rfl) Try.func9
    (ChangeSpec.witness6 (enc := enc) (C := Try.checked) false ⟨#[], #[], []⟩ 8 (by kernel_rfl) (by kernel_rfl) (by kernel_rfl) (by kernel_rfl))

theorem proved : Rows.WeakNamesSaid :=
  OpenClaim.holds_of_wide 9 Try.f9 rfl rfl rfl rfl rfl rfl rfl ⟨rfl, rfl, rfl, rfl, rfl⟩ rfl rfl rfl rfl rfl (by kernel_rfl) Try.func9 (by kernel_rfl)
    (of_decide_eq_true (by kernel_rfl)) (by unfold Func.isWrapper; first | (rw [if_pos (by decide +kernel)]; kernel_rfl) | (rw [if_neg (by decide +kernel)]; exact ⟨rfl, rfl⟩))
    (fun os started H enc _ => lifted os started H enc)

#print axioms proved
end Go.Proofs.Ytkpfgfomppidpaa.WeakNames
