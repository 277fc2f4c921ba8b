/- 'furrowlaw18.WeakResolves': the law returns true, and the input reads as it did. No condition. -/
import Derived.Test.YtkpfgfomppidpaaWh
import Derived.Test.YtkpfgfomppidpaaSx28
namespace Go.Proofs.Ytkpfgfomppidpaa.WeakResolves
set_option linter.unusedSimpArgs false
set_option linter.unusedVariables false
open Go.ChangeShapes Go.WideShapes Go.ChangeAt Go.RowKit Go.Proofs.Ytkpfgfomppidpaa.Sx

theorem own : ownKnob Try.prog.godebug = none := by kernel_rfl
theorem laidOut : laidOutB Try.prog = true := by kernel_rfl

theorem lifted (os : Os) (started : os.Started) (H : Type) (enc : TypeId × Value → H) :
    ReturnsInHanded {} Try.checked os 4 .any (Rows.weakResolvesSpec.pre6 enc Try.prog Try.f4 Rows.weakResolvesRow.domain false) (Rows.weakResolvesSpec.post enc Try.prog Try.f4 false true false false) :=
  law_lifted (C := Try.checked) (pl := [(true, tSeq)]) (tb := 4) lawWeakResolves_ok laidOut rfl (fun ds h => match ds, h with | [_], _ => rfl)
    ⟨⟨by kernel_rfl, by kernel_rfl, by kernel_rfl, by kernel_rfl, by kernel_rfl⟩, trivial⟩
    (by kernel_rfl) (by kernel_rfl) own started (by kernel_rfl) Try.func4
    (ChangeSpec.witness6 (enc := enc) (C := Try.checked) false ⟨#[], #[.agg #[.slice none 0 0, .slice none 0 0, .int .i8 0, .int .u8 0, .int .u8 0]], []⟩ 8 (by kernel_rfl) (by kernel_rfl) (by kernel_rfl) (by kernel_rfl))

theorem proved : Rows.WeakResolvesSaid :=
  OpenClaim.holds_of_wide 4 Try.f4 rfl rfl rfl rfl rfl rfl rfl ⟨rfl, rfl, rfl, rfl, rfl⟩ rfl rfl rfl rfl rfl (by kernel_rfl) Try.func4 (by kernel_rfl)
    (of_decide_eq_true (by kernel_rfl)) (by unfold Func.isWrapper; first | (rw [if_pos (by decide +kernel)]; kernel_rfl) | (rw [if_neg (by decide +kernel)]; exact ⟨rfl, rfl⟩))
    (fun os started H enc _ => lifted os started H enc)

#print axioms proved
end Go.Proofs.Ytkpfgfomppidpaa.WeakResolves
