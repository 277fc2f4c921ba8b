/-
  No cell of these rows narrows 'for every input' (looked for: loops, veiled, ifaces, maps, wideKeys, modest, calm, conditions, laid).
  DERIVED. THE GIVEN ROWS OF THIS SEAT. 8 by the template 'for every input the law returns true; each argument reads behind the call as it read before'; 0 by the template 'total and deterministic' (their statements: YteompacffdeekaaTotals.lean).
  GIVEN WITH THE SEED: the statements are not yours to turn. If you find one false, say at which input.
  Laid BY PROGRAM, IN A SANDBOX (cutbox-rows.mjs): the forced cells as the released guide's own fill.sh prints them over the translation 3e6e7b142b5fece8… (all of the seat's roots in one cut). By AI agents, Wed Nov 11 2026. No macro, syntax, notation, axiom, sorry.
-/
import Derived.Test.YteompacffdeekaaChecked
import GoSem.Claim
import GoSem.ClaimJoined
import GoSem.ClaimMapViews
import Derived.JoinedTies
import Derived.KernelRfl
namespace Go.Proofs.Yteompacffdeekaa
/- THE CELL 'sum', in the pinned program and in every row, IS THE sha256 OF THE DUMP (.gsa) THAT YteompacffdeekaaProg.lean LOADS. Nothing in Lean hashes anything: it is a label: what it is worth is what the hold of that sum in a sandbox is worth. -/
noncomputable def Try.pinned : Pinned := { name := "yteompacffdeekaa", sum := "3e6e7b142b5fece891607d6e46d16ec4d58e8778e7bf7e97cca0125b960ee67f", checked := Try.checked }
namespace Rows
def none {H : Type} : Left H := { results := [], args := [] }

/-- 'furrowlaw18.WeakRules': WHATEVER THE INPUT: true; the input reads as it did. -/
def weakRulesSpec : ChangeSpec := { name := "weakRules", fn := fun _ => fun
  | [d1, d2] => { results := [.lit (.bool true)], args := [d1, d2] }
  | _ => none }
def weakRulesRow : OpenClaim := { program := "yteompacffdeekaa", sum := "3e6e7b142b5fece891607d6e46d16ec4d58e8778e7bf7e97cca0125b960ee67f", func := "furrow/furrowlaw18.WeakRules", spec := "weakRules", unfollowed := true, recurses := true, apart := false }
def WeakRulesSaid : Prop := weakRulesRow.holds Try.pinned (OpenSpec.ofChange weakRulesSpec)

/-- ITS FALSE NEIGHBOUR: 'it returns false'. Refute it at one input. -/
def weakRulesWrong : ChangeSpec := { name := "weakRules", fn := fun _ => fun
  | [d1, d2] => { results := [.lit (.bool false)], args := [d1, d2] }
  | _ => none }
def WeakRulesWrongFalsely : Prop := weakRulesRow.holds Try.pinned (OpenSpec.ofChange weakRulesWrong)

/-- 'furrowlaw18.WeakResolves': WHATEVER THE INPUT: true; the input reads as it did. -/
def weakResolvesSpec : ChangeSpec := { name := "weakResolves", fn := fun _ => fun
  | [d] => { results := [.lit (.bool true)], args := [d] }
  | _ => none }
def weakResolvesRow : OpenClaim := { program := "yteompacffdeekaa", sum := "3e6e7b142b5fece891607d6e46d16ec4d58e8778e7bf7e97cca0125b960ee67f", func := "furrow/furrowlaw18.WeakResolves", spec := "weakResolves", unfollowed := true, recurses := true, apart := false }
def WeakResolvesSaid : Prop := weakResolvesRow.holds Try.pinned (OpenSpec.ofChange weakResolvesSpec)

/-- ITS FALSE NEIGHBOUR: 'it returns false'. Refute it at one input. -/
def weakResolvesWrong : ChangeSpec := { name := "weakResolves", fn := fun _ => fun
  | [d] => { results := [.lit (.bool false)], args := [d] }
  | _ => none }
def WeakResolvesWrongFalsely : Prop := weakResolvesRow.holds Try.pinned (OpenSpec.ofChange weakResolvesWrong)

/-- 'furrowlaw18.WeakLeft': WHATEVER THE INPUT: true; the input reads as it did. -/
def weakLeftSpec : ChangeSpec := { name := "weakLeft", fn := fun _ => fun
  | [d] => { results := [.lit (.bool true)], args := [d] }
  | _ => none }
def weakLeftRow : OpenClaim := { program := "yteompacffdeekaa", sum := "3e6e7b142b5fece891607d6e46d16ec4d58e8778e7bf7e97cca0125b960ee67f", func := "furrow/furrowlaw18.WeakLeft", spec := "weakLeft", unfollowed := true, recurses := true, apart := false }
def WeakLeftSaid : Prop := weakLeftRow.holds Try.pinned (OpenSpec.ofChange weakLeftSpec)

/-- ITS FALSE NEIGHBOUR: 'it returns false'. Refute it at one input. -/
def weakLeftWrong : ChangeSpec := { name := "weakLeft", fn := fun _ => fun
  | [d] => { results := [.lit (.bool false)], args := [d] }
  | _ => none }
def WeakLeftWrongFalsely : Prop := weakLeftRow.holds Try.pinned (OpenSpec.ofChange weakLeftWrong)

/-- 'furrowlaw18.WeakNear': WHATEVER THE INPUT: true; the input reads as it did. -/
def weakNearSpec : ChangeSpec := { name := "weakNear", fn := fun _ => fun
  | [d1, d2, d3] => { results := [.lit (.bool true)], args := [d1, d2, d3] }
  | _ => none }
def weakNearRow : OpenClaim := { program := "yteompacffdeekaa", sum := "3e6e7b142b5fece891607d6e46d16ec4d58e8778e7bf7e97cca0125b960ee67f", func := "furrow/furrowlaw18.WeakNear", spec := "weakNear", unfollowed := true, recurses := true, apart := false }
def WeakNearSaid : Prop := weakNearRow.holds Try.pinned (OpenSpec.ofChange weakNearSpec)

/-- ITS FALSE NEIGHBOUR: 'it returns false'. Refute it at one input. -/
def weakNearWrong : ChangeSpec := { name := "weakNear", fn := fun _ => fun
  | [d1, d2, d3] => { results := [.lit (.bool false)], args := [d1, d2, d3] }
  | _ => none }
def WeakNearWrongFalsely : Prop := weakNearRow.holds Try.pinned (OpenSpec.ofChange weakNearWrong)

/-- 'furrowlaw18.WeakFront': WHATEVER THE INPUT: true; the input reads as it did. -/
def weakFrontSpec : ChangeSpec := { name := "weakFront", fn := fun _ => fun
  | [d1, d2] => { results := [.lit (.bool true)], args := [d1, d2] }
  | _ => none }
def weakFrontRow : OpenClaim := { program := "yteompacffdeekaa", sum := "3e6e7b142b5fece891607d6e46d16ec4d58e8778e7bf7e97cca0125b960ee67f", func := "furrow/furrowlaw18.WeakFront", spec := "weakFront", unfollowed := true, recurses := true, apart := false }
def WeakFrontSaid : Prop := weakFrontRow.holds Try.pinned (OpenSpec.ofChange weakFrontSpec)

/-- ITS FALSE NEIGHBOUR: 'it returns false'. Refute it at one input. -/
def weakFrontWrong : ChangeSpec := { name := "weakFront", fn := fun _ => fun
  | [d1, d2] => { results := [.lit (.bool false)], args := [d1, d2] }
  | _ => none }
def WeakFrontWrongFalsely : Prop := weakFrontRow.holds Try.pinned (OpenSpec.ofChange weakFrontWrong)

/-- 'furrowlaw18.WeakAgain': WHATEVER THE INPUT: true; the input reads as it did. -/
def weakAgainSpec : ChangeSpec := { name := "weakAgain", fn := fun _ => fun
  | [d1, d2] => { results := [.lit (.bool true)], args := [d1, d2] }
  | _ => none }
def weakAgainRow : OpenClaim := { program := "yteompacffdeekaa", sum := "3e6e7b142b5fece891607d6e46d16ec4d58e8778e7bf7e97cca0125b960ee67f", func := "furrow/furrowlaw18.WeakAgain", spec := "weakAgain", unfollowed := true, recurses := true, apart := false }
def WeakAgainSaid : Prop := weakAgainRow.holds Try.pinned (OpenSpec.ofChange weakAgainSpec)

/-- ITS FALSE NEIGHBOUR: 'it returns false'. Refute it at one input. -/
def weakAgainWrong : ChangeSpec := { name := "weakAgain", fn := fun _ => fun
  | [d1, d2] => { results := [.lit (.bool false)], args := [d1, d2] }
  | _ => none }
def WeakAgainWrongFalsely : Prop := weakAgainRow.holds Try.pinned (OpenSpec.ofChange weakAgainWrong)

/-- 'furrowlaw18.WeakNames': WHATEVER THE INPUT: true; the input reads as it did. -/
def weakNamesSpec : ChangeSpec := { name := "weakNames", fn := fun _ => fun
  | [] => { results := [.lit (.bool true)], args := [] }
  | _ => none }
def weakNamesRow : OpenClaim := { program := "yteompacffdeekaa", sum := "3e6e7b142b5fece891607d6e46d16ec4d58e8778e7bf7e97cca0125b960ee67f", func := "furrow/furrowlaw18.WeakNames", spec := "weakNames", unfollowed := true, recurses := true, apart := false }
def WeakNamesSaid : Prop := weakNamesRow.holds Try.pinned (OpenSpec.ofChange weakNamesSpec)

/-- ITS FALSE NEIGHBOUR: 'it returns false'. Refute it at one input. -/
def weakNamesWrong : ChangeSpec := { name := "weakNames", fn := fun _ => fun
  | [] => { results := [.lit (.bool false)], args := [] }
  | _ => none }
def WeakNamesWrongFalsely : Prop := weakNamesRow.holds Try.pinned (OpenSpec.ofChange weakNamesWrong)

/-- 'furrowlaw18.WeakSteps': WHATEVER THE INPUT: true; the input reads as it did. -/
def weakStepsSpec : ChangeSpec := { name := "weakSteps", fn := fun _ => fun
  | [d1, d2] => { results := [.lit (.bool true)], args := [d1, d2] }
  | _ => none }
def weakStepsRow : OpenClaim := { program := "yteompacffdeekaa", sum := "3e6e7b142b5fece891607d6e46d16ec4d58e8778e7bf7e97cca0125b960ee67f", func := "furrow/furrowlaw18.WeakSteps", spec := "weakSteps", unfollowed := true, recurses := true, apart := false }
def WeakStepsSaid : Prop := weakStepsRow.holds Try.pinned (OpenSpec.ofChange weakStepsSpec)

/-- ITS FALSE NEIGHBOUR: 'it returns false'. Refute it at one input. -/
def weakStepsWrong : ChangeSpec := { name := "weakSteps", fn := fun _ => fun
  | [d1, d2] => { results := [.lit (.bool false)], args := [d1, d2] }
  | _ => none }
def WeakStepsWrongFalsely : Prop := weakStepsRow.holds Try.pinned (OpenSpec.ofChange weakStepsWrong)

/- THE SECOND FORM. 'bulk': how many values and letters a reading holds, each counted each time it is reached (what is shared counts as often as it is met; a slice's spare places count too). A statement '..UptoSaid' is the law's where the arguments, and the package variables that the reading takes, are together of bulk at most 1048576: NARROWER than '..Said'. Prove '..Said' where nothing that the law and all that it calls make is longer than what came in: it says more and counts as full. Else prove '..UptoSaid'. A law counts once. -/
mutual
def uptoBulk {H : Type} : DataW H → Nat
  | .lit (.string bytes) => bytes.length + 1
  | .lit _ => 1
  | .nil => 1
  | .ptr d => uptoBulk d + 1
  | .slice elems spare => uptoBulkAll elems + uptoBulkAll spare + 1
  | .agg parts => uptoBulkAll parts + 1
  | .iface _ d => uptoBulk d + 1
  | .map entries => uptoBulkEntries entries + 1
  | .held _ => 1
def uptoBulkAll {H : Type} : List (DataW H) → Nat
  | [] => 0
  | d :: r => uptoBulk d + uptoBulkAll r
def uptoBulkEntries {H : Type} : List (Lit × DataW H) → Nat
  | [] => 0
  | x :: r => uptoBulkEntry x + uptoBulkEntries r
def uptoBulkEntry {H : Type} : Lit × DataW H → Nat
  | (.string bytes, d) => bytes.length + uptoBulk d + 1
  | (_, d) => uptoBulk d + 1
 end
def uptoSmall : (H : Type) → List (DataW H) → Bool := fun _ ds => decide (uptoBulkAll ds ≤ 1048576)
def OpenSpec.upto (s : _root_.Go.ChangeSpec) : _root_.Go.OpenSpec := { _root_.Go.OpenSpec.ofChange s with cond := some uptoSmall }

/-- 'furrowlaw18.WeakRules', WHERE WHAT IT READS IS OF BULK AT MOST 1048576: true; the input reads as it did. -/
def weakRulesUptoRow : OpenClaim := { program := "yteompacffdeekaa", sum := "3e6e7b142b5fece891607d6e46d16ec4d58e8778e7bf7e97cca0125b960ee67f", func := "furrow/furrowlaw18.WeakRules", spec := "weakRules", unfollowed := true, recurses := true, apart := false, narrowed := true }
def WeakRulesUptoSaid : Prop := weakRulesUptoRow.holds Try.pinned (OpenSpec.upto weakRulesSpec)

/-- 'furrowlaw18.WeakResolves', WHERE WHAT IT READS IS OF BULK AT MOST 1048576: true; the input reads as it did. -/
def weakResolvesUptoRow : OpenClaim := { program := "yteompacffdeekaa", sum := "3e6e7b142b5fece891607d6e46d16ec4d58e8778e7bf7e97cca0125b960ee67f", func := "furrow/furrowlaw18.WeakResolves", spec := "weakResolves", unfollowed := true, recurses := true, apart := false, narrowed := true }
def WeakResolvesUptoSaid : Prop := weakResolvesUptoRow.holds Try.pinned (OpenSpec.upto weakResolvesSpec)

/-- 'furrowlaw18.WeakLeft', WHERE WHAT IT READS IS OF BULK AT MOST 1048576: true; the input reads as it did. -/
def weakLeftUptoRow : OpenClaim := { program := "yteompacffdeekaa", sum := "3e6e7b142b5fece891607d6e46d16ec4d58e8778e7bf7e97cca0125b960ee67f", func := "furrow/furrowlaw18.WeakLeft", spec := "weakLeft", unfollowed := true, recurses := true, apart := false, narrowed := true }
def WeakLeftUptoSaid : Prop := weakLeftUptoRow.holds Try.pinned (OpenSpec.upto weakLeftSpec)

/-- 'furrowlaw18.WeakNear', WHERE WHAT IT READS IS OF BULK AT MOST 1048576: true; the input reads as it did. -/
def weakNearUptoRow : OpenClaim := { program := "yteompacffdeekaa", sum := "3e6e7b142b5fece891607d6e46d16ec4d58e8778e7bf7e97cca0125b960ee67f", func := "furrow/furrowlaw18.WeakNear", spec := "weakNear", unfollowed := true, recurses := true, apart := false, narrowed := true }
def WeakNearUptoSaid : Prop := weakNearUptoRow.holds Try.pinned (OpenSpec.upto weakNearSpec)

/-- 'furrowlaw18.WeakFront', WHERE WHAT IT READS IS OF BULK AT MOST 1048576: true; the input reads as it did. -/
def weakFrontUptoRow : OpenClaim := { program := "yteompacffdeekaa", sum := "3e6e7b142b5fece891607d6e46d16ec4d58e8778e7bf7e97cca0125b960ee67f", func := "furrow/furrowlaw18.WeakFront", spec := "weakFront", unfollowed := true, recurses := true, apart := false, narrowed := true }
def WeakFrontUptoSaid : Prop := weakFrontUptoRow.holds Try.pinned (OpenSpec.upto weakFrontSpec)

/-- 'furrowlaw18.WeakAgain', WHERE WHAT IT READS IS OF BULK AT MOST 1048576: true; the input reads as it did. -/
def weakAgainUptoRow : OpenClaim := { program := "yteompacffdeekaa", sum := "3e6e7b142b5fece891607d6e46d16ec4d58e8778e7bf7e97cca0125b960ee67f", func := "furrow/furrowlaw18.WeakAgain", spec := "weakAgain", unfollowed := true, recurses := true, apart := false, narrowed := true }
def WeakAgainUptoSaid : Prop := weakAgainUptoRow.holds Try.pinned (OpenSpec.upto weakAgainSpec)

/-- 'furrowlaw18.WeakNames', WHERE WHAT IT READS IS OF BULK AT MOST 1048576: true; the input reads as it did. -/
def weakNamesUptoRow : OpenClaim := { program := "yteompacffdeekaa", sum := "3e6e7b142b5fece891607d6e46d16ec4d58e8778e7bf7e97cca0125b960ee67f", func := "furrow/furrowlaw18.WeakNames", spec := "weakNames", unfollowed := true, recurses := true, apart := false, narrowed := true }
def WeakNamesUptoSaid : Prop := weakNamesUptoRow.holds Try.pinned (OpenSpec.upto weakNamesSpec)

/-- 'furrowlaw18.WeakSteps', WHERE WHAT IT READS IS OF BULK AT MOST 1048576: true; the input reads as it did. -/
def weakStepsUptoRow : OpenClaim := { program := "yteompacffdeekaa", sum := "3e6e7b142b5fece891607d6e46d16ec4d58e8778e7bf7e97cca0125b960ee67f", func := "furrow/furrowlaw18.WeakSteps", spec := "weakSteps", unfollowed := true, recurses := true, apart := false, narrowed := true }
def WeakStepsUptoSaid : Prop := weakStepsUptoRow.holds Try.pinned (OpenSpec.upto weakStepsSpec)

end Rows
end Go.Proofs.Yteompacffdeekaa
