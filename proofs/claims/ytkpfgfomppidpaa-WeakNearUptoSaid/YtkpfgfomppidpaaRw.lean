/- 'furrowlaw18.WeakNear': the law returns true, and the input reads as it did. Where what comes holds at most 1048576 values and letters. -/
import Derived.Test.YtkpfgfomppidpaaWk
import Derived.Test.YtkpfgfomppidpaaSx28
namespace Go.Proofs.Ytkpfgfomppidpaa.WeakNear
set_option linter.unusedSimpArgs false
set_option linter.unusedVariables false
open Go.ChangeShapes Go.WideShapes Go.ChangeAt Go.RowKit Go.Proofs.Ytkpfgfomppidpaa.Sx

theorem own : ownKnob Try.prog.godebug = none := by kernel_rfl
theorem laidOut : laidOutB Try.prog = true := by kernel_rfl

theorem lifted (os : Os) (started : os.Started) (H : Type) (enc : TypeId × Value → H) (F : Stop.Interp) :
    ReturnsInHanded {} Try.checked os 6 .any ((Rows.OpenSpec.upto Rows.weakNearSpec).pre6 enc Try.prog Try.f6 Rows.weakNearUptoRow.domain false) (((Rows.OpenSpec.upto Rows.weakNearSpec).at F).post enc Try.prog Try.f6 false true false false) :=
  law_liftedU (C := Try.checked) (pl := [(true, tSeq), (false, .int .i64), (false, tClasses)]) (tb := 4) lawWeakNear_ok laidOut rfl (fun ds h => match ds, h with | [_, _, _], _ => rfl)
    ⟨⟨by kernel_rfl, by kernel_rfl, by kernel_rfl, by kernel_rfl, by kernel_rfl⟩, ⟨by kernel_rfl, by kernel_rfl, by kernel_rfl, by kernel_rfl, by kernel_rfl⟩, ⟨by kernel_rfl, by kernel_rfl, by kernel_rfl, by kernel_rfl, by kernel_rfl⟩, trivial⟩
    (by kernel_rfl) (by kernel_rfl) own started (by kernel_rfl) Try.func6 rfl
    (OpenSpec.witness (enc := enc) (C := Try.checked) (s := Rows.OpenSpec.upto Rows.weakNearSpec) (k := Rows.uptoSmall) rfl false ⟨#[], #[.agg #[.slice none 0 0, .slice none 0 0, .int .i8 0, .int .u8 0, .int .u8 0], .int .i64 0, .slice none 0 0], []⟩ 8 (by kernel_rfl) (by kernel_rfl) (by kernel_rfl)
      (x := ([.agg [.nil, .nil, .lit (.int .i8 0), .lit (.int .u8 0), .lit (.int .u8 0)], .lit (.int .i64 0), .nil], [], [])) (by kernel_rfl) rfl (by kernel_rfl))

theorem proved : Rows.WeakNearUptoSaid :=
  OpenClaim.holds_of_cond 6 Try.f6 rfl rfl rfl rfl rfl rfl rfl ⟨rfl, rfl, rfl, rfl, rfl⟩ rfl rfl rfl rfl rfl (by kernel_rfl) Try.func6 (by kernel_rfl)
    (of_decide_eq_true (by kernel_rfl)) (by unfold Func.isWrapper; first | (rw [if_pos (by decide +kernel)]; kernel_rfl) | (rw [if_neg (by decide +kernel)]; exact ⟨rfl, rfl⟩))
    (fun os started H enc _ F => lifted os started H enc F)

#print axioms proved
end Go.Proofs.Ytkpfgfomppidpaa.WeakNear
