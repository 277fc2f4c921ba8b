/- Types of the chapters on sequences. -/
import Derived.Test.YteompacffdeekaaFf
namespace Go.Proofs.Yteompacffdeekaa.Sx
attribute [local irreducible] OkQ Ok
set_option linter.unusedSimpArgs false
set_option linter.unusedVariables false

/-- A sequence's places, classes, level, its two sides. -/
abbrev tInts : Ty := .slice 8 (.int .i64)
abbrev tClasses : Ty := .slice 1 (.int .u8)
abbrev tLevels : Ty := .slice 1 (.int .i8)
abbrev tSeq : Ty := .pair tInts (.pair tClasses (.pair (.int .i8) (.pair (.int .u8) (.pair (.int .u8) .unit))))

end Go.Proofs.Yteompacffdeekaa.Sx
