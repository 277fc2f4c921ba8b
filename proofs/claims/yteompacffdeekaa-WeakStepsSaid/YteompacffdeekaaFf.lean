/- Facts of the program's types, written by a program. -/
import Derived.Test.YteompacffdeekaaSx27
import Derived.Test.YteompacffdeekaaRows
namespace Go.Proofs.Yteompacffdeekaa.Sx
set_option linter.unusedSimpArgs false

theorem tfA0 : aggI Try.prog 0 = (some (false, 1)) := by kernel_rfl
theorem tfA1 : aggI Try.prog 1 = (some (false, 1)) := by kernel_rfl
theorem tfZ1 : zeroI Try.prog 1 = (some ((.val .nilFunc) :: [])) := by kernel_rfl
theorem tfA2 : aggI Try.prog 2 = (some (false, 1)) := by kernel_rfl
theorem tfZ2 : zeroI Try.prog 2 = (some ((.int .i64 (0 : Int)) :: [])) := by kernel_rfl
theorem tfU2 : Program.underlying Try.prog 2 = (some (.int .i64)) := by kernel_rfl
theorem tfA3 : aggI Try.prog 3 = (some (false, 1)) := by kernel_rfl
theorem tfZ3 : zeroI Try.prog 3 = (some ((.int .i64 (0 : Int)) :: [])) := by kernel_rfl
theorem tfU3 : Program.underlying Try.prog 3 = (some (.int .i64)) := by kernel_rfl
theorem tfA4 : aggI Try.prog 4 = (some (false, 1)) := by kernel_rfl
theorem tfZ4 : zeroI Try.prog 4 = (some ((.bool false) :: [])) := by kernel_rfl
theorem tfB4 : isBool Try.prog 4 = true := by kernel_rfl
theorem tfA5 : aggI Try.prog 5 = (some (false, 1)) := by kernel_rfl
theorem tfZ5 : zeroI Try.prog 5 = (some ((.int .u8 (0 : Int)) :: [])) := by kernel_rfl
theorem tfU5 : Program.underlying Try.prog 5 = (some (.int .u8)) := by kernel_rfl
theorem tfA6 : aggI Try.prog 6 = (some (false, 1)) := by kernel_rfl
theorem tfZ6 : zeroI Try.prog 6 = (some ((.int .u8 (0 : Int)) :: [])) := by kernel_rfl
theorem tfU6 : Program.underlying Try.prog 6 = (some (.int .u8)) := by kernel_rfl
theorem tfA7 : aggI Try.prog 7 = (some (true, 4)) := by kernel_rfl
theorem tfZ7 : zeroI Try.prog 7 = (some ((.int .i64 (0 : Int)) :: ((.int .i64 (0 : Int)) :: ((.bool false) :: ((.int .u8 (0 : Int)) :: []))))) := by kernel_rfl
theorem tfP7 : placesI Try.prog 7 = (some ((0, 1) :: ((1, 1) :: ((2, 1) :: ((3, 1) :: []))))) := by kernel_rfl
theorem tfF7x0 : fldI Try.prog 7 0 = (some 0) := by kernel_rfl
theorem tfG7x0 : fieldI Try.prog 7 0 = (some (false, (0, 1))) := by kernel_rfl
theorem tfF7x1 : fldI Try.prog 7 1 = (some 1) := by kernel_rfl
theorem tfG7x1 : fieldI Try.prog 7 1 = (some (false, (1, 1))) := by kernel_rfl
theorem tfF7x2 : fldI Try.prog 7 2 = (some 2) := by kernel_rfl
theorem tfG7x2 : fieldI Try.prog 7 2 = (some (false, (2, 1))) := by kernel_rfl
theorem tfF7x3 : fldI Try.prog 7 3 = (some 3) := by kernel_rfl
theorem tfG7x3 : fieldI Try.prog 7 3 = (some (false, (3, 1))) := by kernel_rfl
theorem tfA8 : aggI Try.prog 8 = (some (true, 4)) := by kernel_rfl
theorem tfZ8 : zeroI Try.prog 8 = (some ((.int .i64 (0 : Int)) :: ((.int .i64 (0 : Int)) :: ((.bool false) :: ((.int .u8 (0 : Int)) :: []))))) := by kernel_rfl
theorem tfP8 : placesI Try.prog 8 = (some ((0, 1) :: ((1, 1) :: ((2, 1) :: ((3, 1) :: []))))) := by kernel_rfl
theorem tfF8x0 : fldI Try.prog 8 0 = (some 0) := by kernel_rfl
theorem tfG8x0 : fieldI Try.prog 8 0 = (some (false, (0, 1))) := by kernel_rfl
theorem tfF8x1 : fldI Try.prog 8 1 = (some 1) := by kernel_rfl
theorem tfG8x1 : fieldI Try.prog 8 1 = (some (false, (1, 1))) := by kernel_rfl
theorem tfF8x2 : fldI Try.prog 8 2 = (some 2) := by kernel_rfl
theorem tfG8x2 : fieldI Try.prog 8 2 = (some (false, (2, 1))) := by kernel_rfl
theorem tfF8x3 : fldI Try.prog 8 3 = (some 3) := by kernel_rfl
theorem tfG8x3 : fieldI Try.prog 8 3 = (some (false, (3, 1))) := by kernel_rfl
theorem tfA9 : aggI Try.prog 9 = (some (false, 1)) := by kernel_rfl
theorem tfZ9 : zeroI Try.prog 9 = (some ((.str []) :: [])) := by kernel_rfl
theorem tfS9 : isStr Try.prog 9 = true := by kernel_rfl
theorem tfA10 : aggI Try.prog 10 = (some (false, 1)) := by kernel_rfl
theorem tfZ10 : zeroI Try.prog 10 = (some ((.str []) :: [])) := by kernel_rfl
theorem tfS10 : isStr Try.prog 10 = true := by kernel_rfl
theorem tfA11 : aggI Try.prog 11 = (some (false, 1)) := by kernel_rfl
theorem tfZ11 : zeroI Try.prog 11 = (some ((.str []) :: [])) := by kernel_rfl
theorem tfS11 : isStr Try.prog 11 = true := by kernel_rfl
theorem tfA12 : aggI Try.prog 12 = (some (false, 1)) := by kernel_rfl
theorem tfZ12 : zeroI Try.prog 12 = (some ((.int .u64 (0 : Int)) :: [])) := by kernel_rfl
theorem tfU12 : Program.underlying Try.prog 12 = (some (.int .u64)) := by kernel_rfl
theorem tfA13 : aggI Try.prog 13 = (some (true, 2)) := by kernel_rfl
theorem tfZ13 : zeroI Try.prog 13 = (some ((.str []) :: ((.int .u64 (0 : Int)) :: []))) := by kernel_rfl
theorem tfP13 : placesI Try.prog 13 = (some ((0, 1) :: ((1, 1) :: []))) := by kernel_rfl
theorem tfF13x0 : fldI Try.prog 13 0 = (some 0) := by kernel_rfl
theorem tfG13x0 : fieldI Try.prog 13 0 = (some (false, (0, 1))) := by kernel_rfl
theorem tfF13x1 : fldI Try.prog 13 1 = (some 1) := by kernel_rfl
theorem tfG13x1 : fieldI Try.prog 13 1 = (some (false, (1, 1))) := by kernel_rfl
theorem tfA14 : aggI Try.prog 14 = (some (true, 2)) := by kernel_rfl
theorem tfZ14 : zeroI Try.prog 14 = (some ((.str []) :: ((.int .u64 (0 : Int)) :: []))) := by kernel_rfl
theorem tfP14 : placesI Try.prog 14 = (some ((0, 1) :: ((1, 1) :: []))) := by kernel_rfl
theorem tfF14x0 : fldI Try.prog 14 0 = (some 0) := by kernel_rfl
theorem tfG14x0 : fieldI Try.prog 14 0 = (some (false, (0, 1))) := by kernel_rfl
theorem tfF14x1 : fldI Try.prog 14 1 = (some 1) := by kernel_rfl
theorem tfG14x1 : fieldI Try.prog 14 1 = (some (false, (1, 1))) := by kernel_rfl
theorem tfA15 : aggI Try.prog 15 = (some (false, 1)) := by kernel_rfl
theorem tfZ15 : zeroI Try.prog 15 = (some ((.val (.pointer none)) :: [])) := by kernel_rfl
theorem tfA16 : aggI Try.prog 16 = (some (false, 1)) := by kernel_rfl
theorem tfZ16 : zeroI Try.prog 16 = (some ((.val (.pointer none)) :: [])) := by kernel_rfl
theorem tfA17 : aggI Try.prog 17 = (some (false, 1)) := by kernel_rfl
theorem tfZ17 : zeroI Try.prog 17 = (some ((.val (.pointer none)) :: [])) := by kernel_rfl
theorem tfA18 : aggI Try.prog 18 = (some (true, 1)) := by kernel_rfl
theorem tfZ18 : zeroI Try.prog 18 = (some ((.val (.pointer none)) :: [])) := by kernel_rfl
theorem tfP18 : placesI Try.prog 18 = (some ((0, 1) :: [])) := by kernel_rfl
theorem tfF18x0 : fldI Try.prog 18 0 = (some 0) := by kernel_rfl
theorem tfG18x0 : fieldI Try.prog 18 0 = (some (false, (0, 1))) := by kernel_rfl
theorem tfA19 : aggI Try.prog 19 = (some (true, 1)) := by kernel_rfl
theorem tfZ19 : zeroI Try.prog 19 = (some ((.val (.pointer none)) :: [])) := by kernel_rfl
theorem tfP19 : placesI Try.prog 19 = (some ((0, 1) :: [])) := by kernel_rfl
theorem tfF19x0 : fldI Try.prog 19 0 = (some 0) := by kernel_rfl
theorem tfG19x0 : fieldI Try.prog 19 0 = (some (false, (0, 1))) := by kernel_rfl
theorem tfA20 : aggI Try.prog 20 = (some (false, 1)) := by kernel_rfl
theorem tfZ20 : zeroI Try.prog 20 = (some ((.val .nilIface) :: [])) := by kernel_rfl
theorem tfA21 : aggI Try.prog 21 = (some (false, 1)) := by kernel_rfl
theorem tfZ21 : zeroI Try.prog 21 = (some ((.int .i32 (0 : Int)) :: [])) := by kernel_rfl
theorem tfU21 : Program.underlying Try.prog 21 = (some (.int .i32)) := by kernel_rfl
theorem tfE22 : elemI Try.prog 22 = (some ((.int .i64), 8)) := by kernel_rfl
theorem tfA22 : aggI Try.prog 22 = (some (false, 1)) := by kernel_rfl
theorem tfZ22 : zeroI Try.prog 22 = (some (.nils :: [])) := by kernel_rfl
theorem tfE23 : elemI Try.prog 23 = (some ((.int .u8), 1)) := by kernel_rfl
theorem tfA23 : aggI Try.prog 23 = (some (false, 1)) := by kernel_rfl
theorem tfZ23 : zeroI Try.prog 23 = (some (.nils :: [])) := by kernel_rfl
theorem tfA24 : aggI Try.prog 24 = (some (false, 1)) := by kernel_rfl
theorem tfZ24 : zeroI Try.prog 24 = (some ((.int .i8 (0 : Int)) :: [])) := by kernel_rfl
theorem tfU24 : Program.underlying Try.prog 24 = (some (.int .i8)) := by kernel_rfl
theorem tfA25 : aggI Try.prog 25 = (some (false, 1)) := by kernel_rfl
theorem tfZ25 : zeroI Try.prog 25 = (some ((.int .i8 (0 : Int)) :: [])) := by kernel_rfl
theorem tfU25 : Program.underlying Try.prog 25 = (some (.int .i8)) := by kernel_rfl
theorem tfA26 : aggI Try.prog 26 = (some (false, 1)) := by kernel_rfl
theorem tfZ26 : zeroI Try.prog 26 = (some ((.int .u8 (0 : Int)) :: [])) := by kernel_rfl
theorem tfU26 : Program.underlying Try.prog 26 = (some (.int .u8)) := by kernel_rfl
theorem tfA27 : aggI Try.prog 27 = (some (true, 5)) := by kernel_rfl
theorem tfZ27 : zeroI Try.prog 27 = (some (.nils :: (.nils :: ((.int .i8 (0 : Int)) :: ((.int .u8 (0 : Int)) :: ((.int .u8 (0 : Int)) :: [])))))) := by kernel_rfl
theorem tfP27 : placesI Try.prog 27 = (some ((0, 1) :: ((1, 1) :: ((2, 1) :: ((3, 1) :: ((4, 1) :: [])))))) := by kernel_rfl
theorem tfF27x0 : fldI Try.prog 27 0 = (some 0) := by kernel_rfl
theorem tfG27x0 : fieldI Try.prog 27 0 = (some (false, (0, 1))) := by kernel_rfl
theorem tfF27x1 : fldI Try.prog 27 1 = (some 1) := by kernel_rfl
theorem tfG27x1 : fieldI Try.prog 27 1 = (some (false, (1, 1))) := by kernel_rfl
theorem tfF27x2 : fldI Try.prog 27 2 = (some 2) := by kernel_rfl
theorem tfG27x2 : fieldI Try.prog 27 2 = (some (false, (2, 1))) := by kernel_rfl
theorem tfF27x3 : fldI Try.prog 27 3 = (some 3) := by kernel_rfl
theorem tfG27x3 : fieldI Try.prog 27 3 = (some (false, (3, 1))) := by kernel_rfl
theorem tfF27x4 : fldI Try.prog 27 4 = (some 4) := by kernel_rfl
theorem tfG27x4 : fieldI Try.prog 27 4 = (some (false, (4, 1))) := by kernel_rfl
theorem tfA28 : aggI Try.prog 28 = (some (true, 5)) := by kernel_rfl
theorem tfZ28 : zeroI Try.prog 28 = (some (.nils :: (.nils :: ((.int .i8 (0 : Int)) :: ((.int .u8 (0 : Int)) :: ((.int .u8 (0 : Int)) :: [])))))) := by kernel_rfl
theorem tfP28 : placesI Try.prog 28 = (some ((0, 1) :: ((1, 1) :: ((2, 1) :: ((3, 1) :: ((4, 1) :: [])))))) := by kernel_rfl
theorem tfF28x0 : fldI Try.prog 28 0 = (some 0) := by kernel_rfl
theorem tfG28x0 : fieldI Try.prog 28 0 = (some (false, (0, 1))) := by kernel_rfl
theorem tfF28x1 : fldI Try.prog 28 1 = (some 1) := by kernel_rfl
theorem tfG28x1 : fieldI Try.prog 28 1 = (some (false, (1, 1))) := by kernel_rfl
theorem tfF28x2 : fldI Try.prog 28 2 = (some 2) := by kernel_rfl
theorem tfG28x2 : fieldI Try.prog 28 2 = (some (false, (2, 1))) := by kernel_rfl
theorem tfF28x3 : fldI Try.prog 28 3 = (some 3) := by kernel_rfl
theorem tfG28x3 : fieldI Try.prog 28 3 = (some (false, (3, 1))) := by kernel_rfl
theorem tfF28x4 : fldI Try.prog 28 4 = (some 4) := by kernel_rfl
theorem tfG28x4 : fieldI Try.prog 28 4 = (some (false, (4, 1))) := by kernel_rfl
theorem tfA29 : aggI Try.prog 29 = (some (false, 1)) := by kernel_rfl
theorem tfZ29 : zeroI Try.prog 29 = (some ((.val .nilFunc) :: [])) := by kernel_rfl
theorem tfA30 : aggI Try.prog 30 = (some (false, 1)) := by kernel_rfl
theorem tfZ30 : zeroI Try.prog 30 = (some ((.val .nilFunc) :: [])) := by kernel_rfl
theorem tfA31 : aggI Try.prog 31 = (some (false, 1)) := by kernel_rfl
theorem tfZ31 : zeroI Try.prog 31 = (some ((.val .nilFunc) :: [])) := by kernel_rfl
theorem tfA32 : aggI Try.prog 32 = (some (false, 1)) := by kernel_rfl
theorem tfZ32 : zeroI Try.prog 32 = (some ((.int .i64 (0 : Int)) :: [])) := by kernel_rfl
theorem tfU32 : Program.underlying Try.prog 32 = (some (.int .i64)) := by kernel_rfl
theorem tfA33 : aggI Try.prog 33 = (some (false, 1)) := by kernel_rfl
theorem tfA34 : aggI Try.prog 34 = (some (false, 1)) := by kernel_rfl
theorem tfZ34 : zeroI Try.prog 34 = (some ((.val .nilFunc) :: [])) := by kernel_rfl
theorem tfA35 : aggI Try.prog 35 = (some (false, 1)) := by kernel_rfl
theorem tfZ35 : zeroI Try.prog 35 = (some ((.val .nilFunc) :: [])) := by kernel_rfl
theorem tfA36 : aggI Try.prog 36 = (some (false, 1)) := by kernel_rfl
theorem tfZ36 : zeroI Try.prog 36 = (some ((.val .nilFunc) :: [])) := by kernel_rfl
theorem tfA37 : aggI Try.prog 37 = (some (false, 1)) := by kernel_rfl
theorem tfZ37 : zeroI Try.prog 37 = (some ((.val .nilFunc) :: [])) := by kernel_rfl
theorem tfA38 : aggI Try.prog 38 = (some (false, 1)) := by kernel_rfl
theorem tfZ38 : zeroI Try.prog 38 = (some ((.val .nilFunc) :: [])) := by kernel_rfl
theorem tfA39 : aggI Try.prog 39 = (some (false, 1)) := by kernel_rfl
theorem tfZ39 : zeroI Try.prog 39 = (some ((.val .nilFunc) :: [])) := by kernel_rfl
theorem tfA40 : aggI Try.prog 40 = (some (false, 1)) := by kernel_rfl
theorem tfZ40 : zeroI Try.prog 40 = (some ((.val .nilFunc) :: [])) := by kernel_rfl
theorem tfA41 : aggI Try.prog 41 = (some (false, 1)) := by kernel_rfl
theorem tfZ41 : zeroI Try.prog 41 = (some ((.val .nilFunc) :: [])) := by kernel_rfl
theorem tfA42 : aggI Try.prog 42 = (some (false, 1)) := by kernel_rfl
theorem tfZ42 : zeroI Try.prog 42 = (some ((.val .nilFunc) :: [])) := by kernel_rfl
theorem tfA43 : aggI Try.prog 43 = (some (false, 1)) := by kernel_rfl
theorem tfZ43 : zeroI Try.prog 43 = (some ((.val .nilFunc) :: [])) := by kernel_rfl
theorem tfA44 : aggI Try.prog 44 = (some (false, 1)) := by kernel_rfl
theorem tfZ44 : zeroI Try.prog 44 = (some ((.val .nilFunc) :: [])) := by kernel_rfl
theorem tfA45 : aggI Try.prog 45 = (some (false, 1)) := by kernel_rfl
theorem tfZ45 : zeroI Try.prog 45 = (some ((.val .nilFunc) :: [])) := by kernel_rfl
theorem tfA46 : aggI Try.prog 46 = (some (false, 1)) := by kernel_rfl
theorem tfZ46 : zeroI Try.prog 46 = (some ((.val .nilFunc) :: [])) := by kernel_rfl
theorem tfA47 : aggI Try.prog 47 = (some (false, 1)) := by kernel_rfl
theorem tfZ47 : zeroI Try.prog 47 = (some ((.val .nilFunc) :: [])) := by kernel_rfl
theorem tfA48 : aggI Try.prog 48 = (some (false, 1)) := by kernel_rfl
theorem tfZ48 : zeroI Try.prog 48 = (some ((.val .nilFunc) :: [])) := by kernel_rfl
theorem tfA49 : aggI Try.prog 49 = (some (false, 1)) := by kernel_rfl
theorem tfZ49 : zeroI Try.prog 49 = (some ((.val .nilFunc) :: [])) := by kernel_rfl
theorem tfA50 : aggI Try.prog 50 = (some (false, 1)) := by kernel_rfl
theorem tfZ50 : zeroI Try.prog 50 = (some ((.val .nilFunc) :: [])) := by kernel_rfl
theorem tfE51 : elemI Try.prog 51 = (some (.opq, 8)) := by kernel_rfl
theorem tfA51 : aggI Try.prog 51 = (some (false, 1)) := by kernel_rfl
theorem tfZ51 : zeroI Try.prog 51 = (some (.nils :: [])) := by kernel_rfl
theorem tfA52 : aggI Try.prog 52 = (some (false, 1)) := by kernel_rfl
theorem tfZ52 : zeroI Try.prog 52 = (some ((.val .nilFunc) :: [])) := by kernel_rfl
theorem tfA53 : aggI Try.prog 53 = (some (false, 1)) := by kernel_rfl
theorem tfZ53 : zeroI Try.prog 53 = (some ((.val .nilFunc) :: [])) := by kernel_rfl
theorem tfA54 : aggI Try.prog 54 = (some (false, 1)) := by kernel_rfl
theorem tfZ54 : zeroI Try.prog 54 = (some ((.val (.pointer none)) :: [])) := by kernel_rfl
theorem tfA55 : aggI Try.prog 55 = (some (true, 2)) := by kernel_rfl
theorem tfZ55 : zeroI Try.prog 55 = (some (.nils :: ((.int .u8 (0 : Int)) :: []))) := by kernel_rfl
theorem tfP55 : placesI Try.prog 55 = (some ((0, 1) :: ((1, 1) :: []))) := by kernel_rfl
theorem tfF55x0 : fldI Try.prog 55 0 = (some 0) := by kernel_rfl
theorem tfG55x0 : fieldI Try.prog 55 0 = (some (false, (0, 1))) := by kernel_rfl
theorem tfF55x1 : fldI Try.prog 55 1 = (some 1) := by kernel_rfl
theorem tfG55x1 : fieldI Try.prog 55 1 = (some (false, (1, 1))) := by kernel_rfl
theorem tfA56 : aggI Try.prog 56 = (some (true, 2)) := by kernel_rfl
theorem tfZ56 : zeroI Try.prog 56 = (some (.nils :: ((.int .u8 (0 : Int)) :: []))) := by kernel_rfl
theorem tfP56 : placesI Try.prog 56 = (some ((0, 1) :: ((1, 1) :: []))) := by kernel_rfl
theorem tfF56x0 : fldI Try.prog 56 0 = (some 0) := by kernel_rfl
theorem tfG56x0 : fieldI Try.prog 56 0 = (some (false, (0, 1))) := by kernel_rfl
theorem tfF56x1 : fldI Try.prog 56 1 = (some 1) := by kernel_rfl
theorem tfG56x1 : fieldI Try.prog 56 1 = (some (false, (1, 1))) := by kernel_rfl
theorem tfA57 : aggI Try.prog 57 = (some (false, 1)) := by kernel_rfl
theorem tfZ57 : zeroI Try.prog 57 = (some ((.val .nilFunc) :: [])) := by kernel_rfl
theorem tfA58 : aggI Try.prog 58 = (some (false, 1)) := by kernel_rfl
theorem tfZ58 : zeroI Try.prog 58 = (some ((.val .nilFunc) :: [])) := by kernel_rfl
theorem tfA59 : aggI Try.prog 59 = (some (false, 1)) := by kernel_rfl
theorem tfZ59 : zeroI Try.prog 59 = (some ((.val .nilFunc) :: [])) := by kernel_rfl
theorem tfA60 : aggI Try.prog 60 = (some (false, 1)) := by kernel_rfl
theorem tfZ60 : zeroI Try.prog 60 = (some ((.val .nilFunc) :: [])) := by kernel_rfl
theorem tfA61 : aggI Try.prog 61 = (some (false, 1)) := by kernel_rfl
theorem tfZ61 : zeroI Try.prog 61 = (some ((.val .nilFunc) :: [])) := by kernel_rfl
theorem tfA62 : aggI Try.prog 62 = (some (false, 1)) := by kernel_rfl
theorem tfZ62 : zeroI Try.prog 62 = (some ((.val .nilFunc) :: [])) := by kernel_rfl
theorem tfA63 : aggI Try.prog 63 = (some (false, 1)) := by kernel_rfl
theorem tfZ63 : zeroI Try.prog 63 = (some ((.val .nilFunc) :: [])) := by kernel_rfl
theorem tfA64 : aggI Try.prog 64 = (some (false, 1)) := by kernel_rfl
theorem tfZ64 : zeroI Try.prog 64 = (some ((.val .nilFunc) :: [])) := by kernel_rfl
theorem tfA65 : aggI Try.prog 65 = (some (false, 1)) := by kernel_rfl
theorem tfZ65 : zeroI Try.prog 65 = (some ((.val .nilFunc) :: [])) := by kernel_rfl
theorem tfA66 : aggI Try.prog 66 = (some (false, 1)) := by kernel_rfl
theorem tfZ66 : zeroI Try.prog 66 = (some ((.val .nilFunc) :: [])) := by kernel_rfl
theorem tfA67 : aggI Try.prog 67 = (some (false, 1)) := by kernel_rfl
theorem tfZ67 : zeroI Try.prog 67 = (some ((.val .nilFunc) :: [])) := by kernel_rfl
theorem tfA68 : aggI Try.prog 68 = (some (true, 4)) := by kernel_rfl
theorem tfZ68 : zeroI Try.prog 68 = (some ((.val (.pointer none)) :: ((.val (.pointer none)) :: ((.val (.pointer none)) :: ((.str []) :: []))))) := by kernel_rfl
theorem tfP68 : placesI Try.prog 68 = (some ((0, 1) :: ((1, 1) :: ((2, 1) :: ((3, 1) :: []))))) := by kernel_rfl
theorem tfF68x0 : fldI Try.prog 68 0 = (some 0) := by kernel_rfl
theorem tfG68x0 : fieldI Try.prog 68 0 = (some (false, (0, 1))) := by kernel_rfl
theorem tfF68x1 : fldI Try.prog 68 1 = (some 1) := by kernel_rfl
theorem tfG68x1 : fieldI Try.prog 68 1 = (some (false, (1, 1))) := by kernel_rfl
theorem tfF68x2 : fldI Try.prog 68 2 = (some 2) := by kernel_rfl
theorem tfG68x2 : fieldI Try.prog 68 2 = (some (false, (2, 1))) := by kernel_rfl
theorem tfF68x3 : fldI Try.prog 68 3 = (some 3) := by kernel_rfl
theorem tfG68x3 : fieldI Try.prog 68 3 = (some (false, (3, 1))) := by kernel_rfl
theorem tfA69 : aggI Try.prog 69 = (some (true, 4)) := by kernel_rfl
theorem tfZ69 : zeroI Try.prog 69 = (some ((.val (.pointer none)) :: ((.val (.pointer none)) :: ((.val (.pointer none)) :: ((.str []) :: []))))) := by kernel_rfl
theorem tfP69 : placesI Try.prog 69 = (some ((0, 1) :: ((1, 1) :: ((2, 1) :: ((3, 1) :: []))))) := by kernel_rfl
theorem tfF69x0 : fldI Try.prog 69 0 = (some 0) := by kernel_rfl
theorem tfG69x0 : fieldI Try.prog 69 0 = (some (false, (0, 1))) := by kernel_rfl
theorem tfF69x1 : fldI Try.prog 69 1 = (some 1) := by kernel_rfl
theorem tfG69x1 : fieldI Try.prog 69 1 = (some (false, (1, 1))) := by kernel_rfl
theorem tfF69x2 : fldI Try.prog 69 2 = (some 2) := by kernel_rfl
theorem tfG69x2 : fieldI Try.prog 69 2 = (some (false, (2, 1))) := by kernel_rfl
theorem tfF69x3 : fldI Try.prog 69 3 = (some 3) := by kernel_rfl
theorem tfG69x3 : fieldI Try.prog 69 3 = (some (false, (3, 1))) := by kernel_rfl
theorem tfA70 : aggI Try.prog 70 = (some (true, 0)) := by kernel_rfl
theorem tfZ70 : zeroI Try.prog 70 = (some []) := by kernel_rfl
theorem tfA71 : aggI Try.prog 71 = (some (true, 0)) := by kernel_rfl
theorem tfZ71 : zeroI Try.prog 71 = (some []) := by kernel_rfl
theorem tfP71 : placesI Try.prog 71 = (some ((0, 0) :: [])) := by kernel_rfl
theorem tfG71x0 : fieldI Try.prog 71 0 = (some (true, (0, 0))) := by kernel_rfl
theorem tfA72 : aggI Try.prog 72 = (some (true, 0)) := by kernel_rfl
theorem tfZ72 : zeroI Try.prog 72 = (some []) := by kernel_rfl
theorem tfP72 : placesI Try.prog 72 = (some ((0, 0) :: [])) := by kernel_rfl
theorem tfG72x0 : fieldI Try.prog 72 0 = (some (true, (0, 0))) := by kernel_rfl
theorem tfA73 : aggI Try.prog 73 = (some (false, 1)) := by kernel_rfl
theorem tfZ73 : zeroI Try.prog 73 = (some ((.val .nilFunc) :: [])) := by kernel_rfl
theorem tfA74 : aggI Try.prog 74 = (some (false, 1)) := by kernel_rfl
theorem tfZ74 : zeroI Try.prog 74 = (some ((.int .u32 (0 : Int)) :: [])) := by kernel_rfl
theorem tfU74 : Program.underlying Try.prog 74 = (some (.int .u32)) := by kernel_rfl
theorem tfA75 : aggI Try.prog 75 = (some (false, 1)) := by kernel_rfl
theorem tfZ75 : zeroI Try.prog 75 = (some ((.int .u8 (0 : Int)) :: [])) := by kernel_rfl
theorem tfU75 : Program.underlying Try.prog 75 = (some (.int .u8)) := by kernel_rfl
theorem tfA76 : aggI Try.prog 76 = (some (false, 1)) := by kernel_rfl
theorem tfZ76 : zeroI Try.prog 76 = (some ((.int .u8 (0 : Int)) :: [])) := by kernel_rfl
theorem tfU76 : Program.underlying Try.prog 76 = (some (.int .u8)) := by kernel_rfl
theorem tfA77 : aggI Try.prog 77 = (some (false, 1)) := by kernel_rfl
theorem tfZ77 : zeroI Try.prog 77 = (some ((.val .nilFunc) :: [])) := by kernel_rfl
theorem tfA78 : aggI Try.prog 78 = (some (false, 1)) := by kernel_rfl
theorem tfZ78 : zeroI Try.prog 78 = (some ((.val (.pointer none)) :: [])) := by kernel_rfl
theorem tfA79 : aggI Try.prog 79 = (some (false, 1)) := by kernel_rfl
theorem tfZ79 : zeroI Try.prog 79 = (some ((.int .i32 (0 : Int)) :: [])) := by kernel_rfl
theorem tfU79 : Program.underlying Try.prog 79 = (some (.int .i32)) := by kernel_rfl
theorem tfA80 : aggI Try.prog 80 = (some (false, 1)) := by kernel_rfl
theorem tfZ80 : zeroI Try.prog 80 = (some ((.int .i32 (0 : Int)) :: [])) := by kernel_rfl
theorem tfU80 : Program.underlying Try.prog 80 = (some (.int .i32)) := by kernel_rfl
theorem tfA81 : aggI Try.prog 81 = (some (true, 11)) := by kernel_rfl
theorem tfZ81 : zeroI Try.prog 81 = (some ((.int .u64 (0 : Int)) :: ((.int .u64 (0 : Int)) :: ((.int .u32 (0 : Int)) :: ((.int .u8 (0 : Int)) :: ((.int .u8 (0 : Int)) :: ((.int .u8 (0 : Int)) :: ((.int .u8 (0 : Int)) :: ((.val .nilFunc) :: ((.val (.pointer none)) :: ((.int .i32 (0 : Int)) :: ((.int .i32 (0 : Int)) :: [])))))))))))) := by kernel_rfl
theorem tfP81 : placesI Try.prog 81 = (some ((0, 1) :: ((1, 1) :: ((2, 1) :: ((3, 1) :: ((4, 1) :: ((5, 1) :: ((6, 1) :: ((7, 1) :: ((8, 1) :: ((9, 1) :: ((10, 1) :: [])))))))))))) := by kernel_rfl
theorem tfF81x0 : fldI Try.prog 81 0 = (some 0) := by kernel_rfl
theorem tfG81x0 : fieldI Try.prog 81 0 = (some (false, (0, 1))) := by kernel_rfl
theorem tfF81x1 : fldI Try.prog 81 1 = (some 1) := by kernel_rfl
theorem tfG81x1 : fieldI Try.prog 81 1 = (some (false, (1, 1))) := by kernel_rfl
theorem tfF81x2 : fldI Try.prog 81 2 = (some 2) := by kernel_rfl
theorem tfG81x2 : fieldI Try.prog 81 2 = (some (false, (2, 1))) := by kernel_rfl
theorem tfF81x3 : fldI Try.prog 81 3 = (some 3) := by kernel_rfl
theorem tfG81x3 : fieldI Try.prog 81 3 = (some (false, (3, 1))) := by kernel_rfl
theorem tfF81x4 : fldI Try.prog 81 4 = (some 4) := by kernel_rfl
theorem tfG81x4 : fieldI Try.prog 81 4 = (some (false, (4, 1))) := by kernel_rfl
theorem tfF81x5 : fldI Try.prog 81 5 = (some 5) := by kernel_rfl
theorem tfG81x5 : fieldI Try.prog 81 5 = (some (false, (5, 1))) := by kernel_rfl
theorem tfF81x6 : fldI Try.prog 81 6 = (some 6) := by kernel_rfl
theorem tfG81x6 : fieldI Try.prog 81 6 = (some (false, (6, 1))) := by kernel_rfl
theorem tfF81x7 : fldI Try.prog 81 7 = (some 7) := by kernel_rfl
theorem tfG81x7 : fieldI Try.prog 81 7 = (some (false, (7, 1))) := by kernel_rfl
theorem tfF81x8 : fldI Try.prog 81 8 = (some 8) := by kernel_rfl
theorem tfG81x8 : fieldI Try.prog 81 8 = (some (false, (8, 1))) := by kernel_rfl
theorem tfF81x9 : fldI Try.prog 81 9 = (some 9) := by kernel_rfl
theorem tfG81x9 : fieldI Try.prog 81 9 = (some (false, (9, 1))) := by kernel_rfl
theorem tfF81x10 : fldI Try.prog 81 10 = (some 10) := by kernel_rfl
theorem tfG81x10 : fieldI Try.prog 81 10 = (some (false, (10, 1))) := by kernel_rfl
theorem tfA82 : aggI Try.prog 82 = (some (true, 11)) := by kernel_rfl
theorem tfZ82 : zeroI Try.prog 82 = (some ((.int .u64 (0 : Int)) :: ((.int .u64 (0 : Int)) :: ((.int .u32 (0 : Int)) :: ((.int .u8 (0 : Int)) :: ((.int .u8 (0 : Int)) :: ((.int .u8 (0 : Int)) :: ((.int .u8 (0 : Int)) :: ((.val .nilFunc) :: ((.val (.pointer none)) :: ((.int .i32 (0 : Int)) :: ((.int .i32 (0 : Int)) :: [])))))))))))) := by kernel_rfl
theorem tfP82 : placesI Try.prog 82 = (some ((0, 1) :: ((1, 1) :: ((2, 1) :: ((3, 1) :: ((4, 1) :: ((5, 1) :: ((6, 1) :: ((7, 1) :: ((8, 1) :: ((9, 1) :: ((10, 1) :: [])))))))))))) := by kernel_rfl
theorem tfF82x0 : fldI Try.prog 82 0 = (some 0) := by kernel_rfl
theorem tfG82x0 : fieldI Try.prog 82 0 = (some (false, (0, 1))) := by kernel_rfl
theorem tfF82x1 : fldI Try.prog 82 1 = (some 1) := by kernel_rfl
theorem tfG82x1 : fieldI Try.prog 82 1 = (some (false, (1, 1))) := by kernel_rfl
theorem tfF82x2 : fldI Try.prog 82 2 = (some 2) := by kernel_rfl
theorem tfG82x2 : fieldI Try.prog 82 2 = (some (false, (2, 1))) := by kernel_rfl
theorem tfF82x3 : fldI Try.prog 82 3 = (some 3) := by kernel_rfl
theorem tfG82x3 : fieldI Try.prog 82 3 = (some (false, (3, 1))) := by kernel_rfl
theorem tfF82x4 : fldI Try.prog 82 4 = (some 4) := by kernel_rfl
theorem tfG82x4 : fieldI Try.prog 82 4 = (some (false, (4, 1))) := by kernel_rfl
theorem tfF82x5 : fldI Try.prog 82 5 = (some 5) := by kernel_rfl
theorem tfG82x5 : fieldI Try.prog 82 5 = (some (false, (5, 1))) := by kernel_rfl
theorem tfF82x6 : fldI Try.prog 82 6 = (some 6) := by kernel_rfl
theorem tfG82x6 : fieldI Try.prog 82 6 = (some (false, (6, 1))) := by kernel_rfl
theorem tfF82x7 : fldI Try.prog 82 7 = (some 7) := by kernel_rfl
theorem tfG82x7 : fieldI Try.prog 82 7 = (some (false, (7, 1))) := by kernel_rfl
theorem tfF82x8 : fldI Try.prog 82 8 = (some 8) := by kernel_rfl
theorem tfG82x8 : fieldI Try.prog 82 8 = (some (false, (8, 1))) := by kernel_rfl
theorem tfF82x9 : fldI Try.prog 82 9 = (some 9) := by kernel_rfl
theorem tfG82x9 : fieldI Try.prog 82 9 = (some (false, (9, 1))) := by kernel_rfl
theorem tfF82x10 : fldI Try.prog 82 10 = (some 10) := by kernel_rfl
theorem tfG82x10 : fieldI Try.prog 82 10 = (some (false, (10, 1))) := by kernel_rfl
theorem tfA83 : aggI Try.prog 83 = (some (false, 1)) := by kernel_rfl
theorem tfZ83 : zeroI Try.prog 83 = (some ((.val (.pointer none)) :: [])) := by kernel_rfl

attribute [go_sem] tfA0 tfA1 tfZ1 tfA2 tfZ2 tfU2 tfA3 tfZ3 tfU3 tfA4 tfZ4 tfB4 tfA5 tfZ5 tfU5 tfA6 tfZ6 tfU6 tfA7 tfZ7
attribute [go_sem] tfP7 tfF7x0 tfG7x0 tfF7x1 tfG7x1 tfF7x2 tfG7x2 tfF7x3 tfG7x3 tfA8 tfZ8 tfP8 tfF8x0 tfG8x0 tfF8x1 tfG8x1 tfF8x2 tfG8x2 tfF8x3 tfG8x3
attribute [go_sem] tfA9 tfZ9 tfS9 tfA10 tfZ10 tfS10 tfA11 tfZ11 tfS11 tfA12 tfZ12 tfU12 tfA13 tfZ13 tfP13 tfF13x0 tfG13x0 tfF13x1 tfG13x1 tfA14
attribute [go_sem] tfZ14 tfP14 tfF14x0 tfG14x0 tfF14x1 tfG14x1 tfA15 tfZ15 tfA16 tfZ16 tfA17 tfZ17 tfA18 tfZ18 tfP18 tfF18x0 tfG18x0 tfA19 tfZ19 tfP19
attribute [go_sem] tfF19x0 tfG19x0 tfA20 tfZ20 tfA21 tfZ21 tfU21 tfE22 tfA22 tfZ22 tfE23 tfA23 tfZ23 tfA24 tfZ24 tfU24 tfA25 tfZ25 tfU25 tfA26
attribute [go_sem] tfZ26 tfU26 tfA27 tfZ27 tfP27 tfF27x0 tfG27x0 tfF27x1 tfG27x1 tfF27x2 tfG27x2 tfF27x3 tfG27x3 tfF27x4 tfG27x4 tfA28 tfZ28 tfP28 tfF28x0 tfG28x0
attribute [go_sem] tfF28x1 tfG28x1 tfF28x2 tfG28x2 tfF28x3 tfG28x3 tfF28x4 tfG28x4 tfA29 tfZ29 tfA30 tfZ30 tfA31 tfZ31 tfA32 tfZ32 tfU32 tfA33 tfA34 tfZ34
attribute [go_sem] tfA35 tfZ35 tfA36 tfZ36 tfA37 tfZ37 tfA38 tfZ38 tfA39 tfZ39 tfA40 tfZ40 tfA41 tfZ41 tfA42 tfZ42 tfA43 tfZ43 tfA44 tfZ44
attribute [go_sem] tfA45 tfZ45 tfA46 tfZ46 tfA47 tfZ47 tfA48 tfZ48 tfA49 tfZ49 tfA50 tfZ50 tfE51 tfA51 tfZ51 tfA52 tfZ52 tfA53 tfZ53 tfA54
attribute [go_sem] tfZ54 tfA55 tfZ55 tfP55 tfF55x0 tfG55x0 tfF55x1 tfG55x1 tfA56 tfZ56 tfP56 tfF56x0 tfG56x0 tfF56x1 tfG56x1 tfA57 tfZ57 tfA58 tfZ58 tfA59
attribute [go_sem] tfZ59 tfA60 tfZ60 tfA61 tfZ61 tfA62 tfZ62 tfA63 tfZ63 tfA64 tfZ64 tfA65 tfZ65 tfA66 tfZ66 tfA67 tfZ67 tfA68 tfZ68 tfP68
attribute [go_sem] tfF68x0 tfG68x0 tfF68x1 tfG68x1 tfF68x2 tfG68x2 tfF68x3 tfG68x3 tfA69 tfZ69 tfP69 tfF69x0 tfG69x0 tfF69x1 tfG69x1 tfF69x2 tfG69x2 tfF69x3 tfG69x3 tfA70
attribute [go_sem] tfZ70 tfA71 tfZ71 tfP71 tfG71x0 tfA72 tfZ72 tfP72 tfG72x0 tfA73 tfZ73 tfA74 tfZ74 tfU74 tfA75 tfZ75 tfU75 tfA76 tfZ76 tfU76
attribute [go_sem] tfA77 tfZ77 tfA78 tfZ78 tfA79 tfZ79 tfU79 tfA80 tfZ80 tfU80 tfA81 tfZ81 tfP81 tfF81x0 tfG81x0 tfF81x1 tfG81x1 tfF81x2 tfG81x2 tfF81x3
attribute [go_sem] tfG81x3 tfF81x4 tfG81x4 tfF81x5 tfG81x5 tfF81x6 tfG81x6 tfF81x7 tfG81x7 tfF81x8 tfG81x8 tfF81x9 tfG81x9 tfF81x10 tfG81x10 tfA82 tfZ82 tfP82 tfF82x0 tfG82x0
attribute [go_sem] tfF82x1 tfG82x1 tfF82x2 tfG82x2 tfF82x3 tfG82x3 tfF82x4 tfG82x4 tfF82x5 tfG82x5 tfF82x6 tfG82x6 tfF82x7 tfG82x7 tfF82x8 tfG82x8 tfF82x9 tfG82x9 tfF82x10 tfG82x10
attribute [go_sem] tfA83 tfZ83

end Go.Proofs.Yteompacffdeekaa.Sx
