/- Facts of the program's types, written by a program. -/
import Derived.Test.YteopmgddchnefaaSx27
import Derived.Test.YteopmgddchnefaaRows
namespace Go.Proofs.Yteopmgddchnefaa.Sx
set_option linter.unusedSimpArgs false

theorem tfA0 : aggI Try.prog 0 = (some (false, 1)) := by kernel_rfl
theorem tfA1 : aggI Try.prog 1 = (some (false, 1)) := by kernel_rfl
theorem tfZ1 : zeroI Try.prog 1 = (some ((.val .nilFunc) :: [])) := by kernel_rfl
theorem tfA2 : aggI Try.prog 2 = (some (false, 1)) := by kernel_rfl
theorem tfZ2 : zeroI Try.prog 2 = (some ((.int .i64 (0 : Int)) :: [])) := by kernel_rfl
theorem tfU2 : Program.underlying Try.prog 2 = (some (.int .i64)) := by kernel_rfl
theorem tfA3 : aggI Try.prog 3 = (some (false, 1)) := by kernel_rfl
theorem tfZ3 : zeroI Try.prog 3 = (some ((.int .i64 (0 : Int)) :: [])) := by kernel_rfl
theorem tfU3 : Program.underlying Try.prog 3 = (some (.int .i64)) := by kernel_rfl
theorem tfA4 : aggI Try.prog 4 = (some (false, 1)) := by kernel_rfl
theorem tfZ4 : zeroI Try.prog 4 = (some ((.bool false) :: [])) := by kernel_rfl
theorem tfB4 : isBool Try.prog 4 = true := by kernel_rfl
theorem tfA5 : aggI Try.prog 5 = (some (false, 1)) := by kernel_rfl
theorem tfZ5 : zeroI Try.prog 5 = (some ((.int .u8 (0 : Int)) :: [])) := by kernel_rfl
theorem tfU5 : Program.underlying Try.prog 5 = (some (.int .u8)) := by kernel_rfl
theorem tfA6 : aggI Try.prog 6 = (some (false, 1)) := by kernel_rfl
theorem tfZ6 : zeroI Try.prog 6 = (some ((.int .u8 (0 : Int)) :: [])) := by kernel_rfl
theorem tfU6 : Program.underlying Try.prog 6 = (some (.int .u8)) := by kernel_rfl
theorem tfA7 : aggI Try.prog 7 = (some (true, 4)) := by kernel_rfl
theorem tfZ7 : zeroI Try.prog 7 = (some ((.int .i64 (0 : Int)) :: ((.int .i64 (0 : Int)) :: ((.bool false) :: ((.int .u8 (0 : Int)) :: []))))) := by kernel_rfl
theorem tfP7 : placesI Try.prog 7 = (some ((0, 1) :: ((1, 1) :: ((2, 1) :: ((3, 1) :: []))))) := by kernel_rfl
theorem tfF7x0 : fldI Try.prog 7 0 = (some 0) := by kernel_rfl
theorem tfG7x0 : fieldI Try.prog 7 0 = (some (false, (0, 1))) := by kernel_rfl
theorem tfF7x1 : fldI Try.prog 7 1 = (some 1) := by kernel_rfl
theorem tfG7x1 : fieldI Try.prog 7 1 = (some (false, (1, 1))) := by kernel_rfl
theorem tfF7x2 : fldI Try.prog 7 2 = (some 2) := by kernel_rfl
theorem tfG7x2 : fieldI Try.prog 7 2 = (some (false, (2, 1))) := by kernel_rfl
theorem tfF7x3 : fldI Try.prog 7 3 = (some 3) := by kernel_rfl
theorem tfG7x3 : fieldI Try.prog 7 3 = (some (false, (3, 1))) := by kernel_rfl
theorem tfA8 : aggI Try.prog 8 = (some (true, 4)) := by kernel_rfl
theorem tfZ8 : zeroI Try.prog 8 = (some ((.int .i64 (0 : Int)) :: ((.int .i64 (0 : Int)) :: ((.bool false) :: ((.int .u8 (0 : Int)) :: []))))) := by kernel_rfl
theorem tfP8 : placesI Try.prog 8 = (some ((0, 1) :: ((1, 1) :: ((2, 1) :: ((3, 1) :: []))))) := by kernel_rfl
theorem tfF8x0 : fldI Try.prog 8 0 = (some 0) := by kernel_rfl
theorem tfG8x0 : fieldI Try.prog 8 0 = (some (false, (0, 1))) := by kernel_rfl
theorem tfF8x1 : fldI Try.prog 8 1 = (some 1) := by kernel_rfl
theorem tfG8x1 : fieldI Try.prog 8 1 = (some (false, (1, 1))) := by kernel_rfl
theorem tfF8x2 : fldI Try.prog 8 2 = (some 2) := by kernel_rfl
theorem tfG8x2 : fieldI Try.prog 8 2 = (some (false, (2, 1))) := by kernel_rfl
theorem tfF8x3 : fldI Try.prog 8 3 = (some 3) := by kernel_rfl
theorem tfG8x3 : fieldI Try.prog 8 3 = (some (false, (3, 1))) := by kernel_rfl
theorem tfA9 : aggI Try.prog 9 = (some (false, 1)) := by kernel_rfl
theorem tfZ9 : zeroI Try.prog 9 = (some ((.str []) :: [])) := by kernel_rfl
theorem tfS9 : isStr Try.prog 9 = true := by kernel_rfl
theorem tfA10 : aggI Try.prog 10 = (some (false, 1)) := by kernel_rfl
theorem tfZ10 : zeroI Try.prog 10 = (some ((.str []) :: [])) := by kernel_rfl
theorem tfS10 : isStr Try.prog 10 = true := by kernel_rfl
theorem tfA11 : aggI Try.prog 11 = (some (false, 1)) := by kernel_rfl
theorem tfZ11 : zeroI Try.prog 11 = (some ((.str []) :: [])) := by kernel_rfl
theorem tfS11 : isStr Try.prog 11 = true := by kernel_rfl
theorem tfA12 : aggI Try.prog 12 = (some (false, 1)) := by kernel_rfl
theorem tfZ12 : zeroI Try.prog 12 = (some ((.int .u64 (0 : Int)) :: [])) := by kernel_rfl
theorem tfU12 : Program.underlying Try.prog 12 = (some (.int .u64)) := by kernel_rfl
theorem tfA13 : aggI Try.prog 13 = (some (true, 2)) := by kernel_rfl
theorem tfZ13 : zeroI Try.prog 13 = (some ((.str []) :: ((.int .u64 (0 : Int)) :: []))) := by kernel_rfl
theorem tfP13 : placesI Try.prog 13 = (some ((0, 1) :: ((1, 1) :: []))) := by kernel_rfl
theorem tfF13x0 : fldI Try.prog 13 0 = (some 0) := by kernel_rfl
theorem tfG13x0 : fieldI Try.prog 13 0 = (some (false, (0, 1))) := by kernel_rfl
theorem tfF13x1 : fldI Try.prog 13 1 = (some 1) := by kernel_rfl
theorem tfG13x1 : fieldI Try.prog 13 1 = (some (false, (1, 1))) := by kernel_rfl
theorem tfA14 : aggI Try.prog 14 = (some (true, 2)) := by kernel_rfl
theorem tfZ14 : zeroI Try.prog 14 = (some ((.str []) :: ((.int .u64 (0 : Int)) :: []))) := by kernel_rfl
theorem tfP14 : placesI Try.prog 14 = (some ((0, 1) :: ((1, 1) :: []))) := by kernel_rfl
theorem tfF14x0 : fldI Try.prog 14 0 = (some 0) := by kernel_rfl
theorem tfG14x0 : fieldI Try.prog 14 0 = (some (false, (0, 1))) := by kernel_rfl
theorem tfF14x1 : fldI Try.prog 14 1 = (some 1) := by kernel_rfl
theorem tfG14x1 : fieldI Try.prog 14 1 = (some (false, (1, 1))) := by kernel_rfl
theorem tfA15 : aggI Try.prog 15 = (some (false, 1)) := by kernel_rfl
theorem tfZ15 : zeroI Try.prog 15 = (some ((.val (.pointer none)) :: [])) := by kernel_rfl
theorem tfA16 : aggI Try.prog 16 = (some (false, 1)) := by kernel_rfl
theorem tfZ16 : zeroI Try.prog 16 = (some ((.val (.pointer none)) :: [])) := by kernel_rfl
theorem tfA17 : aggI Try.prog 17 = (some (false, 1)) := by kernel_rfl
theorem tfZ17 : zeroI Try.prog 17 = (some ((.val (.pointer none)) :: [])) := by kernel_rfl
theorem tfA18 : aggI Try.prog 18 = (some (true, 1)) := by kernel_rfl
theorem tfZ18 : zeroI Try.prog 18 = (some ((.val (.pointer none)) :: [])) := by kernel_rfl
theorem tfP18 : placesI Try.prog 18 = (some ((0, 1) :: [])) := by kernel_rfl
theorem tfF18x0 : fldI Try.prog 18 0 = (some 0) := by kernel_rfl
theorem tfG18x0 : fieldI Try.prog 18 0 = (some (false, (0, 1))) := by kernel_rfl
theorem tfA19 : aggI Try.prog 19 = (some (true, 1)) := by kernel_rfl
theorem tfZ19 : zeroI Try.prog 19 = (some ((.val (.pointer none)) :: [])) := by kernel_rfl
theorem tfP19 : placesI Try.prog 19 = (some ((0, 1) :: [])) := by kernel_rfl
theorem tfF19x0 : fldI Try.prog 19 0 = (some 0) := by kernel_rfl
theorem tfG19x0 : fieldI Try.prog 19 0 = (some (false, (0, 1))) := by kernel_rfl
theorem tfA20 : aggI Try.prog 20 = (some (false, 1)) := by kernel_rfl
theorem tfZ20 : zeroI Try.prog 20 = (some ((.val .nilIface) :: [])) := by kernel_rfl
theorem tfA21 : aggI Try.prog 21 = (some (false, 1)) := by kernel_rfl
theorem tfZ21 : zeroI Try.prog 21 = (some ((.int .i32 (0 : Int)) :: [])) := by kernel_rfl
theorem tfU21 : Program.underlying Try.prog 21 = (some (.int .i32)) := by kernel_rfl
theorem tfA22 : aggI Try.prog 22 = (some (false, 1)) := by kernel_rfl
theorem tfZ22 : zeroI Try.prog 22 = (some ((.int .u8 (0 : Int)) :: [])) := by kernel_rfl
theorem tfU22 : Program.underlying Try.prog 22 = (some (.int .u8)) := by kernel_rfl
theorem tfA23 : aggI Try.prog 23 = (some (false, 1)) := by kernel_rfl
theorem tfZ23 : zeroI Try.prog 23 = (some ((.int .i8 (0 : Int)) :: [])) := by kernel_rfl
theorem tfU23 : Program.underlying Try.prog 23 = (some (.int .i8)) := by kernel_rfl
theorem tfA24 : aggI Try.prog 24 = (some (false, 1)) := by kernel_rfl
theorem tfZ24 : zeroI Try.prog 24 = (some ((.int .i8 (0 : Int)) :: [])) := by kernel_rfl
theorem tfU24 : Program.underlying Try.prog 24 = (some (.int .i8)) := by kernel_rfl
theorem tfA25 : aggI Try.prog 25 = (some (false, 1)) := by kernel_rfl
theorem tfA26 : aggI Try.prog 26 = (some (false, 1)) := by kernel_rfl
theorem tfZ26 : zeroI Try.prog 26 = (some ((.val .nilFunc) :: [])) := by kernel_rfl
theorem tfA27 : aggI Try.prog 27 = (some (false, 1)) := by kernel_rfl
theorem tfA28 : aggI Try.prog 28 = (some (false, 1)) := by kernel_rfl
theorem tfZ28 : zeroI Try.prog 28 = (some ((.val .nilFunc) :: [])) := by kernel_rfl
theorem tfA29 : aggI Try.prog 29 = (some (false, 1)) := by kernel_rfl
theorem tfZ29 : zeroI Try.prog 29 = (some ((.val .nilFunc) :: [])) := by kernel_rfl
theorem tfA30 : aggI Try.prog 30 = (some (false, 1)) := by kernel_rfl
theorem tfZ30 : zeroI Try.prog 30 = (some ((.val .nilFunc) :: [])) := by kernel_rfl
theorem tfA31 : aggI Try.prog 31 = (some (false, 1)) := by kernel_rfl
theorem tfZ31 : zeroI Try.prog 31 = (some ((.val .nilFunc) :: [])) := by kernel_rfl
theorem tfA32 : aggI Try.prog 32 = (some (false, 1)) := by kernel_rfl
theorem tfZ32 : zeroI Try.prog 32 = (some ((.val .nilFunc) :: [])) := by kernel_rfl
theorem tfE33 : elemI Try.prog 33 = (some ((.int .i64), 8)) := by kernel_rfl
theorem tfA33 : aggI Try.prog 33 = (some (false, 1)) := by kernel_rfl
theorem tfZ33 : zeroI Try.prog 33 = (some (.nils :: [])) := by kernel_rfl
theorem tfE34 : elemI Try.prog 34 = (some ((.int .u8), 1)) := by kernel_rfl
theorem tfA34 : aggI Try.prog 34 = (some (false, 1)) := by kernel_rfl
theorem tfZ34 : zeroI Try.prog 34 = (some (.nils :: [])) := by kernel_rfl
theorem tfA35 : aggI Try.prog 35 = (some (true, 5)) := by kernel_rfl
theorem tfZ35 : zeroI Try.prog 35 = (some (.nils :: (.nils :: ((.int .i8 (0 : Int)) :: ((.int .u8 (0 : Int)) :: ((.int .u8 (0 : Int)) :: [])))))) := by kernel_rfl
theorem tfP35 : placesI Try.prog 35 = (some ((0, 1) :: ((1, 1) :: ((2, 1) :: ((3, 1) :: ((4, 1) :: [])))))) := by kernel_rfl
theorem tfF35x0 : fldI Try.prog 35 0 = (some 0) := by kernel_rfl
theorem tfG35x0 : fieldI Try.prog 35 0 = (some (false, (0, 1))) := by kernel_rfl
theorem tfF35x1 : fldI Try.prog 35 1 = (some 1) := by kernel_rfl
theorem tfG35x1 : fieldI Try.prog 35 1 = (some (false, (1, 1))) := by kernel_rfl
theorem tfF35x2 : fldI Try.prog 35 2 = (some 2) := by kernel_rfl
theorem tfG35x2 : fieldI Try.prog 35 2 = (some (false, (2, 1))) := by kernel_rfl
theorem tfF35x3 : fldI Try.prog 35 3 = (some 3) := by kernel_rfl
theorem tfG35x3 : fieldI Try.prog 35 3 = (some (false, (3, 1))) := by kernel_rfl
theorem tfF35x4 : fldI Try.prog 35 4 = (some 4) := by kernel_rfl
theorem tfG35x4 : fieldI Try.prog 35 4 = (some (false, (4, 1))) := by kernel_rfl
theorem tfA36 : aggI Try.prog 36 = (some (true, 5)) := by kernel_rfl
theorem tfZ36 : zeroI Try.prog 36 = (some (.nils :: (.nils :: ((.int .i8 (0 : Int)) :: ((.int .u8 (0 : Int)) :: ((.int .u8 (0 : Int)) :: [])))))) := by kernel_rfl
theorem tfP36 : placesI Try.prog 36 = (some ((0, 1) :: ((1, 1) :: ((2, 1) :: ((3, 1) :: ((4, 1) :: [])))))) := by kernel_rfl
theorem tfF36x0 : fldI Try.prog 36 0 = (some 0) := by kernel_rfl
theorem tfG36x0 : fieldI Try.prog 36 0 = (some (false, (0, 1))) := by kernel_rfl
theorem tfF36x1 : fldI Try.prog 36 1 = (some 1) := by kernel_rfl
theorem tfG36x1 : fieldI Try.prog 36 1 = (some (false, (1, 1))) := by kernel_rfl
theorem tfF36x2 : fldI Try.prog 36 2 = (some 2) := by kernel_rfl
theorem tfG36x2 : fieldI Try.prog 36 2 = (some (false, (2, 1))) := by kernel_rfl
theorem tfF36x3 : fldI Try.prog 36 3 = (some 3) := by kernel_rfl
theorem tfG36x3 : fieldI Try.prog 36 3 = (some (false, (3, 1))) := by kernel_rfl
theorem tfF36x4 : fldI Try.prog 36 4 = (some 4) := by kernel_rfl
theorem tfG36x4 : fieldI Try.prog 36 4 = (some (false, (4, 1))) := by kernel_rfl
theorem tfA37 : aggI Try.prog 37 = (some (false, 1)) := by kernel_rfl
theorem tfZ37 : zeroI Try.prog 37 = (some ((.val .nilFunc) :: [])) := by kernel_rfl
theorem tfA38 : aggI Try.prog 38 = (some (false, 1)) := by kernel_rfl
theorem tfZ38 : zeroI Try.prog 38 = (some ((.int .i64 (0 : Int)) :: [])) := by kernel_rfl
theorem tfU38 : Program.underlying Try.prog 38 = (some (.int .i64)) := by kernel_rfl
theorem tfA39 : aggI Try.prog 39 = (some (false, 1)) := by kernel_rfl
theorem tfA40 : aggI Try.prog 40 = (some (false, 1)) := by kernel_rfl
theorem tfZ40 : zeroI Try.prog 40 = (some ((.val .nilFunc) :: [])) := by kernel_rfl
theorem tfA41 : aggI Try.prog 41 = (some (false, 1)) := by kernel_rfl
theorem tfZ41 : zeroI Try.prog 41 = (some ((.val .nilFunc) :: [])) := by kernel_rfl
theorem tfA42 : aggI Try.prog 42 = (some (false, 1)) := by kernel_rfl
theorem tfZ42 : zeroI Try.prog 42 = (some ((.val .nilFunc) :: [])) := by kernel_rfl
theorem tfE43 : elemI Try.prog 43 = (some ((.int .i8), 1)) := by kernel_rfl
theorem tfA43 : aggI Try.prog 43 = (some (false, 1)) := by kernel_rfl
theorem tfZ43 : zeroI Try.prog 43 = (some (.nils :: [])) := by kernel_rfl
theorem tfA44 : aggI Try.prog 44 = (some (false, 1)) := by kernel_rfl
theorem tfA45 : aggI Try.prog 45 = (some (false, 1)) := by kernel_rfl
theorem tfZ45 : zeroI Try.prog 45 = (some ((.val .nilFunc) :: [])) := by kernel_rfl
theorem tfA46 : aggI Try.prog 46 = (some (false, 1)) := by kernel_rfl
theorem tfZ46 : zeroI Try.prog 46 = (some ((.val .nilFunc) :: [])) := by kernel_rfl
theorem tfA47 : aggI Try.prog 47 = (some (false, 1)) := by kernel_rfl
theorem tfZ47 : zeroI Try.prog 47 = (some ((.val .nilFunc) :: [])) := by kernel_rfl
theorem tfA48 : aggI Try.prog 48 = (some (false, 1)) := by kernel_rfl
theorem tfZ48 : zeroI Try.prog 48 = (some ((.val .nilFunc) :: [])) := by kernel_rfl
theorem tfA49 : aggI Try.prog 49 = (some (false, 1)) := by kernel_rfl
theorem tfZ49 : zeroI Try.prog 49 = (some ((.val .nilFunc) :: [])) := by kernel_rfl
theorem tfA50 : aggI Try.prog 50 = (some (false, 1)) := by kernel_rfl
theorem tfZ50 : zeroI Try.prog 50 = (some ((.val .nilFunc) :: [])) := by kernel_rfl
theorem tfA51 : aggI Try.prog 51 = (some (false, 1)) := by kernel_rfl
theorem tfZ51 : zeroI Try.prog 51 = (some ((.val .nilFunc) :: [])) := by kernel_rfl
theorem tfA52 : aggI Try.prog 52 = (some (false, 1)) := by kernel_rfl
theorem tfZ52 : zeroI Try.prog 52 = (some ((.val .nilFunc) :: [])) := by kernel_rfl
theorem tfA53 : aggI Try.prog 53 = (some (false, 1)) := by kernel_rfl
theorem tfZ53 : zeroI Try.prog 53 = (some ((.val .nilFunc) :: [])) := by kernel_rfl
theorem tfA54 : aggI Try.prog 54 = (some (false, 1)) := by kernel_rfl
theorem tfZ54 : zeroI Try.prog 54 = (some ((.val .nilFunc) :: [])) := by kernel_rfl
theorem tfA55 : aggI Try.prog 55 = (some (false, 1)) := by kernel_rfl
theorem tfZ55 : zeroI Try.prog 55 = (some ((.val .nilFunc) :: [])) := by kernel_rfl
theorem tfA56 : aggI Try.prog 56 = (some (false, 1)) := by kernel_rfl
theorem tfZ56 : zeroI Try.prog 56 = (some ((.val .nilFunc) :: [])) := by kernel_rfl
theorem tfA57 : aggI Try.prog 57 = (some (false, 1)) := by kernel_rfl
theorem tfZ57 : zeroI Try.prog 57 = (some ((.val .nilFunc) :: [])) := by kernel_rfl
theorem tfA58 : aggI Try.prog 58 = (some (false, 1)) := by kernel_rfl
theorem tfZ58 : zeroI Try.prog 58 = (some ((.val .nilFunc) :: [])) := by kernel_rfl
theorem tfA59 : aggI Try.prog 59 = (some (false, 1)) := by kernel_rfl
theorem tfZ59 : zeroI Try.prog 59 = (some ((.val .nilFunc) :: [])) := by kernel_rfl
theorem tfA60 : aggI Try.prog 60 = (some (false, 1)) := by kernel_rfl
theorem tfZ60 : zeroI Try.prog 60 = (some ((.val .nilFunc) :: [])) := by kernel_rfl
theorem tfA61 : aggI Try.prog 61 = (some (false, 1)) := by kernel_rfl
theorem tfZ61 : zeroI Try.prog 61 = (some ((.val .nilFunc) :: [])) := by kernel_rfl
theorem tfA62 : aggI Try.prog 62 = (some (false, 1)) := by kernel_rfl
theorem tfZ62 : zeroI Try.prog 62 = (some ((.val .nilFunc) :: [])) := by kernel_rfl
theorem tfA63 : aggI Try.prog 63 = (some (false, 1)) := by kernel_rfl
theorem tfZ63 : zeroI Try.prog 63 = (some ((.val .nilFunc) :: [])) := by kernel_rfl
theorem tfA64 : aggI Try.prog 64 = (some (false, 1)) := by kernel_rfl
theorem tfZ64 : zeroI Try.prog 64 = (some ((.val .nilFunc) :: [])) := by kernel_rfl
theorem tfA65 : aggI Try.prog 65 = (some (false, 1)) := by kernel_rfl
theorem tfZ65 : zeroI Try.prog 65 = (some ((.val .nilFunc) :: [])) := by kernel_rfl
theorem tfA66 : aggI Try.prog 66 = (some (false, 1)) := by kernel_rfl
theorem tfZ66 : zeroI Try.prog 66 = (some ((.val .nilFunc) :: [])) := by kernel_rfl
theorem tfE67 : elemI Try.prog 67 = (some (.opq, 8)) := by kernel_rfl
theorem tfA67 : aggI Try.prog 67 = (some (false, 1)) := by kernel_rfl
theorem tfZ67 : zeroI Try.prog 67 = (some (.nils :: [])) := by kernel_rfl
theorem tfA68 : aggI Try.prog 68 = (some (false, 1)) := by kernel_rfl
theorem tfZ68 : zeroI Try.prog 68 = (some ((.val .nilFunc) :: [])) := by kernel_rfl
theorem tfA69 : aggI Try.prog 69 = (some (false, 1)) := by kernel_rfl
theorem tfZ69 : zeroI Try.prog 69 = (some ((.val .nilFunc) :: [])) := by kernel_rfl
theorem tfA70 : aggI Try.prog 70 = (some (false, 1)) := by kernel_rfl
theorem tfZ70 : zeroI Try.prog 70 = (some ((.val (.pointer none)) :: [])) := by kernel_rfl
theorem tfA71 : aggI Try.prog 71 = (some (true, 2)) := by kernel_rfl
theorem tfZ71 : zeroI Try.prog 71 = (some (.nils :: ((.int .u8 (0 : Int)) :: []))) := by kernel_rfl
theorem tfP71 : placesI Try.prog 71 = (some ((0, 1) :: ((1, 1) :: []))) := by kernel_rfl
theorem tfF71x0 : fldI Try.prog 71 0 = (some 0) := by kernel_rfl
theorem tfG71x0 : fieldI Try.prog 71 0 = (some (false, (0, 1))) := by kernel_rfl
theorem tfF71x1 : fldI Try.prog 71 1 = (some 1) := by kernel_rfl
theorem tfG71x1 : fieldI Try.prog 71 1 = (some (false, (1, 1))) := by kernel_rfl
theorem tfA72 : aggI Try.prog 72 = (some (true, 2)) := by kernel_rfl
theorem tfZ72 : zeroI Try.prog 72 = (some (.nils :: ((.int .u8 (0 : Int)) :: []))) := by kernel_rfl
theorem tfP72 : placesI Try.prog 72 = (some ((0, 1) :: ((1, 1) :: []))) := by kernel_rfl
theorem tfF72x0 : fldI Try.prog 72 0 = (some 0) := by kernel_rfl
theorem tfG72x0 : fieldI Try.prog 72 0 = (some (false, (0, 1))) := by kernel_rfl
theorem tfF72x1 : fldI Try.prog 72 1 = (some 1) := by kernel_rfl
theorem tfG72x1 : fieldI Try.prog 72 1 = (some (false, (1, 1))) := by kernel_rfl
theorem tfA73 : aggI Try.prog 73 = (some (false, 1)) := by kernel_rfl
theorem tfZ73 : zeroI Try.prog 73 = (some ((.val .nilFunc) :: [])) := by kernel_rfl
theorem tfA74 : aggI Try.prog 74 = (some (false, 1)) := by kernel_rfl
theorem tfZ74 : zeroI Try.prog 74 = (some ((.val .nilFunc) :: [])) := by kernel_rfl
theorem tfA75 : aggI Try.prog 75 = (some (false, 1)) := by kernel_rfl
theorem tfZ75 : zeroI Try.prog 75 = (some ((.val .nilFunc) :: [])) := by kernel_rfl
theorem tfA76 : aggI Try.prog 76 = (some (false, 1)) := by kernel_rfl
theorem tfZ76 : zeroI Try.prog 76 = (some ((.val .nilFunc) :: [])) := by kernel_rfl
theorem tfA77 : aggI Try.prog 77 = (some (false, 1)) := by kernel_rfl
theorem tfZ77 : zeroI Try.prog 77 = (some ((.val .nilFunc) :: [])) := by kernel_rfl
theorem tfA78 : aggI Try.prog 78 = (some (false, 1)) := by kernel_rfl
theorem tfZ78 : zeroI Try.prog 78 = (some ((.val .nilFunc) :: [])) := by kernel_rfl
theorem tfA79 : aggI Try.prog 79 = (some (false, 1)) := by kernel_rfl
theorem tfZ79 : zeroI Try.prog 79 = (some ((.val .nilFunc) :: [])) := by kernel_rfl
theorem tfA80 : aggI Try.prog 80 = (some (false, 1)) := by kernel_rfl
theorem tfZ80 : zeroI Try.prog 80 = (some ((.val .nilFunc) :: [])) := by kernel_rfl
theorem tfA81 : aggI Try.prog 81 = (some (false, 1)) := by kernel_rfl
theorem tfZ81 : zeroI Try.prog 81 = (some ((.val .nilFunc) :: [])) := by kernel_rfl
theorem tfA82 : aggI Try.prog 82 = (some (true, 4)) := by kernel_rfl
theorem tfZ82 : zeroI Try.prog 82 = (some ((.val (.pointer none)) :: ((.val (.pointer none)) :: ((.val (.pointer none)) :: ((.str []) :: []))))) := by kernel_rfl
theorem tfP82 : placesI Try.prog 82 = (some ((0, 1) :: ((1, 1) :: ((2, 1) :: ((3, 1) :: []))))) := by kernel_rfl
theorem tfF82x0 : fldI Try.prog 82 0 = (some 0) := by kernel_rfl
theorem tfG82x0 : fieldI Try.prog 82 0 = (some (false, (0, 1))) := by kernel_rfl
theorem tfF82x1 : fldI Try.prog 82 1 = (some 1) := by kernel_rfl
theorem tfG82x1 : fieldI Try.prog 82 1 = (some (false, (1, 1))) := by kernel_rfl
theorem tfF82x2 : fldI Try.prog 82 2 = (some 2) := by kernel_rfl
theorem tfG82x2 : fieldI Try.prog 82 2 = (some (false, (2, 1))) := by kernel_rfl
theorem tfF82x3 : fldI Try.prog 82 3 = (some 3) := by kernel_rfl
theorem tfG82x3 : fieldI Try.prog 82 3 = (some (false, (3, 1))) := by kernel_rfl
theorem tfA83 : aggI Try.prog 83 = (some (true, 4)) := by kernel_rfl
theorem tfZ83 : zeroI Try.prog 83 = (some ((.val (.pointer none)) :: ((.val (.pointer none)) :: ((.val (.pointer none)) :: ((.str []) :: []))))) := by kernel_rfl
theorem tfP83 : placesI Try.prog 83 = (some ((0, 1) :: ((1, 1) :: ((2, 1) :: ((3, 1) :: []))))) := by kernel_rfl
theorem tfF83x0 : fldI Try.prog 83 0 = (some 0) := by kernel_rfl
theorem tfG83x0 : fieldI Try.prog 83 0 = (some (false, (0, 1))) := by kernel_rfl
theorem tfF83x1 : fldI Try.prog 83 1 = (some 1) := by kernel_rfl
theorem tfG83x1 : fieldI Try.prog 83 1 = (some (false, (1, 1))) := by kernel_rfl
theorem tfF83x2 : fldI Try.prog 83 2 = (some 2) := by kernel_rfl
theorem tfG83x2 : fieldI Try.prog 83 2 = (some (false, (2, 1))) := by kernel_rfl
theorem tfF83x3 : fldI Try.prog 83 3 = (some 3) := by kernel_rfl
theorem tfG83x3 : fieldI Try.prog 83 3 = (some (false, (3, 1))) := by kernel_rfl
theorem tfA84 : aggI Try.prog 84 = (some (true, 0)) := by kernel_rfl
theorem tfZ84 : zeroI Try.prog 84 = (some []) := by kernel_rfl
theorem tfA85 : aggI Try.prog 85 = (some (true, 0)) := by kernel_rfl
theorem tfZ85 : zeroI Try.prog 85 = (some []) := by kernel_rfl
theorem tfP85 : placesI Try.prog 85 = (some ((0, 0) :: [])) := by kernel_rfl
theorem tfG85x0 : fieldI Try.prog 85 0 = (some (true, (0, 0))) := by kernel_rfl
theorem tfA86 : aggI Try.prog 86 = (some (true, 0)) := by kernel_rfl
theorem tfZ86 : zeroI Try.prog 86 = (some []) := by kernel_rfl
theorem tfP86 : placesI Try.prog 86 = (some ((0, 0) :: [])) := by kernel_rfl
theorem tfG86x0 : fieldI Try.prog 86 0 = (some (true, (0, 0))) := by kernel_rfl
theorem tfA87 : aggI Try.prog 87 = (some (false, 1)) := by kernel_rfl
theorem tfZ87 : zeroI Try.prog 87 = (some ((.val .nilFunc) :: [])) := by kernel_rfl
theorem tfA88 : aggI Try.prog 88 = (some (false, 1)) := by kernel_rfl
theorem tfZ88 : zeroI Try.prog 88 = (some ((.int .u32 (0 : Int)) :: [])) := by kernel_rfl
theorem tfU88 : Program.underlying Try.prog 88 = (some (.int .u32)) := by kernel_rfl
theorem tfA89 : aggI Try.prog 89 = (some (false, 1)) := by kernel_rfl
theorem tfZ89 : zeroI Try.prog 89 = (some ((.int .u8 (0 : Int)) :: [])) := by kernel_rfl
theorem tfU89 : Program.underlying Try.prog 89 = (some (.int .u8)) := by kernel_rfl
theorem tfA90 : aggI Try.prog 90 = (some (false, 1)) := by kernel_rfl
theorem tfZ90 : zeroI Try.prog 90 = (some ((.int .u8 (0 : Int)) :: [])) := by kernel_rfl
theorem tfU90 : Program.underlying Try.prog 90 = (some (.int .u8)) := by kernel_rfl
theorem tfA91 : aggI Try.prog 91 = (some (false, 1)) := by kernel_rfl
theorem tfZ91 : zeroI Try.prog 91 = (some ((.val .nilFunc) :: [])) := by kernel_rfl
theorem tfA92 : aggI Try.prog 92 = (some (false, 1)) := by kernel_rfl
theorem tfZ92 : zeroI Try.prog 92 = (some ((.val (.pointer none)) :: [])) := by kernel_rfl
theorem tfA93 : aggI Try.prog 93 = (some (false, 1)) := by kernel_rfl
theorem tfZ93 : zeroI Try.prog 93 = (some ((.int .i32 (0 : Int)) :: [])) := by kernel_rfl
theorem tfU93 : Program.underlying Try.prog 93 = (some (.int .i32)) := by kernel_rfl
theorem tfA94 : aggI Try.prog 94 = (some (false, 1)) := by kernel_rfl
theorem tfZ94 : zeroI Try.prog 94 = (some ((.int .i32 (0 : Int)) :: [])) := by kernel_rfl
theorem tfU94 : Program.underlying Try.prog 94 = (some (.int .i32)) := by kernel_rfl
theorem tfA95 : aggI Try.prog 95 = (some (true, 11)) := by kernel_rfl
theorem tfZ95 : zeroI Try.prog 95 = (some ((.int .u64 (0 : Int)) :: ((.int .u64 (0 : Int)) :: ((.int .u32 (0 : Int)) :: ((.int .u8 (0 : Int)) :: ((.int .u8 (0 : Int)) :: ((.int .u8 (0 : Int)) :: ((.int .u8 (0 : Int)) :: ((.val .nilFunc) :: ((.val (.pointer none)) :: ((.int .i32 (0 : Int)) :: ((.int .i32 (0 : Int)) :: [])))))))))))) := by kernel_rfl
theorem tfP95 : placesI Try.prog 95 = (some ((0, 1) :: ((1, 1) :: ((2, 1) :: ((3, 1) :: ((4, 1) :: ((5, 1) :: ((6, 1) :: ((7, 1) :: ((8, 1) :: ((9, 1) :: ((10, 1) :: [])))))))))))) := by kernel_rfl
theorem tfF95x0 : fldI Try.prog 95 0 = (some 0) := by kernel_rfl
theorem tfG95x0 : fieldI Try.prog 95 0 = (some (false, (0, 1))) := by kernel_rfl
theorem tfF95x1 : fldI Try.prog 95 1 = (some 1) := by kernel_rfl
theorem tfG95x1 : fieldI Try.prog 95 1 = (some (false, (1, 1))) := by kernel_rfl
theorem tfF95x2 : fldI Try.prog 95 2 = (some 2) := by kernel_rfl
theorem tfG95x2 : fieldI Try.prog 95 2 = (some (false, (2, 1))) := by kernel_rfl
theorem tfF95x3 : fldI Try.prog 95 3 = (some 3) := by kernel_rfl
theorem tfG95x3 : fieldI Try.prog 95 3 = (some (false, (3, 1))) := by kernel_rfl
theorem tfF95x4 : fldI Try.prog 95 4 = (some 4) := by kernel_rfl
theorem tfG95x4 : fieldI Try.prog 95 4 = (some (false, (4, 1))) := by kernel_rfl
theorem tfF95x5 : fldI Try.prog 95 5 = (some 5) := by kernel_rfl
theorem tfG95x5 : fieldI Try.prog 95 5 = (some (false, (5, 1))) := by kernel_rfl
theorem tfF95x6 : fldI Try.prog 95 6 = (some 6) := by kernel_rfl
theorem tfG95x6 : fieldI Try.prog 95 6 = (some (false, (6, 1))) := by kernel_rfl
theorem tfF95x7 : fldI Try.prog 95 7 = (some 7) := by kernel_rfl
theorem tfG95x7 : fieldI Try.prog 95 7 = (some (false, (7, 1))) := by kernel_rfl
theorem tfF95x8 : fldI Try.prog 95 8 = (some 8) := by kernel_rfl
theorem tfG95x8 : fieldI Try.prog 95 8 = (some (false, (8, 1))) := by kernel_rfl
theorem tfF95x9 : fldI Try.prog 95 9 = (some 9) := by kernel_rfl
theorem tfG95x9 : fieldI Try.prog 95 9 = (some (false, (9, 1))) := by kernel_rfl
theorem tfF95x10 : fldI Try.prog 95 10 = (some 10) := by kernel_rfl
theorem tfG95x10 : fieldI Try.prog 95 10 = (some (false, (10, 1))) := by kernel_rfl
theorem tfA96 : aggI Try.prog 96 = (some (true, 11)) := by kernel_rfl
theorem tfZ96 : zeroI Try.prog 96 = (some ((.int .u64 (0 : Int)) :: ((.int .u64 (0 : Int)) :: ((.int .u32 (0 : Int)) :: ((.int .u8 (0 : Int)) :: ((.int .u8 (0 : Int)) :: ((.int .u8 (0 : Int)) :: ((.int .u8 (0 : Int)) :: ((.val .nilFunc) :: ((.val (.pointer none)) :: ((.int .i32 (0 : Int)) :: ((.int .i32 (0 : Int)) :: [])))))))))))) := by kernel_rfl
theorem tfP96 : placesI Try.prog 96 = (some ((0, 1) :: ((1, 1) :: ((2, 1) :: ((3, 1) :: ((4, 1) :: ((5, 1) :: ((6, 1) :: ((7, 1) :: ((8, 1) :: ((9, 1) :: ((10, 1) :: [])))))))))))) := by kernel_rfl
theorem tfF96x0 : fldI Try.prog 96 0 = (some 0) := by kernel_rfl
theorem tfG96x0 : fieldI Try.prog 96 0 = (some (false, (0, 1))) := by kernel_rfl
theorem tfF96x1 : fldI Try.prog 96 1 = (some 1) := by kernel_rfl
theorem tfG96x1 : fieldI Try.prog 96 1 = (some (false, (1, 1))) := by kernel_rfl
theorem tfF96x2 : fldI Try.prog 96 2 = (some 2) := by kernel_rfl
theorem tfG96x2 : fieldI Try.prog 96 2 = (some (false, (2, 1))) := by kernel_rfl
theorem tfF96x3 : fldI Try.prog 96 3 = (some 3) := by kernel_rfl
theorem tfG96x3 : fieldI Try.prog 96 3 = (some (false, (3, 1))) := by kernel_rfl
theorem tfF96x4 : fldI Try.prog 96 4 = (some 4) := by kernel_rfl
theorem tfG96x4 : fieldI Try.prog 96 4 = (some (false, (4, 1))) := by kernel_rfl
theorem tfF96x5 : fldI Try.prog 96 5 = (some 5) := by kernel_rfl
theorem tfG96x5 : fieldI Try.prog 96 5 = (some (false, (5, 1))) := by kernel_rfl
theorem tfF96x6 : fldI Try.prog 96 6 = (some 6) := by kernel_rfl
theorem tfG96x6 : fieldI Try.prog 96 6 = (some (false, (6, 1))) := by kernel_rfl
theorem tfF96x7 : fldI Try.prog 96 7 = (some 7) := by kernel_rfl
theorem tfG96x7 : fieldI Try.prog 96 7 = (some (false, (7, 1))) := by kernel_rfl
theorem tfF96x8 : fldI Try.prog 96 8 = (some 8) := by kernel_rfl
theorem tfG96x8 : fieldI Try.prog 96 8 = (some (false, (8, 1))) := by kernel_rfl
theorem tfF96x9 : fldI Try.prog 96 9 = (some 9) := by kernel_rfl
theorem tfG96x9 : fieldI Try.prog 96 9 = (some (false, (9, 1))) := by kernel_rfl
theorem tfF96x10 : fldI Try.prog 96 10 = (some 10) := by kernel_rfl
theorem tfG96x10 : fieldI Try.prog 96 10 = (some (false, (10, 1))) := by kernel_rfl
theorem tfA97 : aggI Try.prog 97 = (some (false, 1)) := by kernel_rfl
theorem tfZ97 : zeroI Try.prog 97 = (some ((.val (.pointer none)) :: [])) := by kernel_rfl

attribute [go_sem] tfA0 tfA1 tfZ1 tfA2 tfZ2 tfU2 tfA3 tfZ3 tfU3 tfA4 tfZ4 tfB4 tfA5 tfZ5 tfU5 tfA6 tfZ6 tfU6 tfA7 tfZ7
attribute [go_sem] tfP7 tfF7x0 tfG7x0 tfF7x1 tfG7x1 tfF7x2 tfG7x2 tfF7x3 tfG7x3 tfA8 tfZ8 tfP8 tfF8x0 tfG8x0 tfF8x1 tfG8x1 tfF8x2 tfG8x2 tfF8x3 tfG8x3
attribute [go_sem] tfA9 tfZ9 tfS9 tfA10 tfZ10 tfS10 tfA11 tfZ11 tfS11 tfA12 tfZ12 tfU12 tfA13 tfZ13 tfP13 tfF13x0 tfG13x0 tfF13x1 tfG13x1 tfA14
attribute [go_sem] tfZ14 tfP14 tfF14x0 tfG14x0 tfF14x1 tfG14x1 tfA15 tfZ15 tfA16 tfZ16 tfA17 tfZ17 tfA18 tfZ18 tfP18 tfF18x0 tfG18x0 tfA19 tfZ19 tfP19
attribute [go_sem] tfF19x0 tfG19x0 tfA20 tfZ20 tfA21 tfZ21 tfU21 tfA22 tfZ22 tfU22 tfA23 tfZ23 tfU23 tfA24 tfZ24 tfU24 tfA25 tfA26 tfZ26 tfA27
attribute [go_sem] tfA28 tfZ28 tfA29 tfZ29 tfA30 tfZ30 tfA31 tfZ31 tfA32 tfZ32 tfE33 tfA33 tfZ33 tfE34 tfA34 tfZ34 tfA35 tfZ35 tfP35 tfF35x0
attribute [go_sem] tfG35x0 tfF35x1 tfG35x1 tfF35x2 tfG35x2 tfF35x3 tfG35x3 tfF35x4 tfG35x4 tfA36 tfZ36 tfP36 tfF36x0 tfG36x0 tfF36x1 tfG36x1 tfF36x2 tfG36x2 tfF36x3 tfG36x3
attribute [go_sem] tfF36x4 tfG36x4 tfA37 tfZ37 tfA38 tfZ38 tfU38 tfA39 tfA40 tfZ40 tfA41 tfZ41 tfA42 tfZ42 tfE43 tfA43 tfZ43 tfA44 tfA45 tfZ45
attribute [go_sem] tfA46 tfZ46 tfA47 tfZ47 tfA48 tfZ48 tfA49 tfZ49 tfA50 tfZ50 tfA51 tfZ51 tfA52 tfZ52 tfA53 tfZ53 tfA54 tfZ54 tfA55 tfZ55
attribute [go_sem] tfA56 tfZ56 tfA57 tfZ57 tfA58 tfZ58 tfA59 tfZ59 tfA60 tfZ60 tfA61 tfZ61 tfA62 tfZ62 tfA63 tfZ63 tfA64 tfZ64 tfA65 tfZ65
attribute [go_sem] tfA66 tfZ66 tfE67 tfA67 tfZ67 tfA68 tfZ68 tfA69 tfZ69 tfA70 tfZ70 tfA71 tfZ71 tfP71 tfF71x0 tfG71x0 tfF71x1 tfG71x1 tfA72 tfZ72
attribute [go_sem] tfP72 tfF72x0 tfG72x0 tfF72x1 tfG72x1 tfA73 tfZ73 tfA74 tfZ74 tfA75 tfZ75 tfA76 tfZ76 tfA77 tfZ77 tfA78 tfZ78 tfA79 tfZ79 tfA80
attribute [go_sem] tfZ80 tfA81 tfZ81 tfA82 tfZ82 tfP82 tfF82x0 tfG82x0 tfF82x1 tfG82x1 tfF82x2 tfG82x2 tfF82x3 tfG82x3 tfA83 tfZ83 tfP83 tfF83x0 tfG83x0 tfF83x1
attribute [go_sem] tfG83x1 tfF83x2 tfG83x2 tfF83x3 tfG83x3 tfA84 tfZ84 tfA85 tfZ85 tfP85 tfG85x0 tfA86 tfZ86 tfP86 tfG86x0 tfA87 tfZ87 tfA88 tfZ88 tfU88
attribute [go_sem] tfA89 tfZ89 tfU89 tfA90 tfZ90 tfU90 tfA91 tfZ91 tfA92 tfZ92 tfA93 tfZ93 tfU93 tfA94 tfZ94 tfU94 tfA95 tfZ95 tfP95 tfF95x0
attribute [go_sem] tfG95x0 tfF95x1 tfG95x1 tfF95x2 tfG95x2 tfF95x3 tfG95x3 tfF95x4 tfG95x4 tfF95x5 tfG95x5 tfF95x6 tfG95x6 tfF95x7 tfG95x7 tfF95x8 tfG95x8 tfF95x9 tfG95x9 tfF95x10
attribute [go_sem] tfG95x10 tfA96 tfZ96 tfP96 tfF96x0 tfG96x0 tfF96x1 tfG96x1 tfF96x2 tfG96x2 tfF96x3 tfG96x3 tfF96x4 tfG96x4 tfF96x5 tfG96x5 tfF96x6 tfG96x6 tfF96x7 tfG96x7
attribute [go_sem] tfF96x8 tfG96x8 tfF96x9 tfG96x9 tfF96x10 tfG96x10 tfA97 tfZ97

end Go.Proofs.Yteopmgddchnefaa.Sx
